/- A part of the proof. -/
import Derived.Test.YtklmcfpgdfibnaaClLawTyNode
import Derived.Test.YtklmcfpgdfibnaaClRowT
import Derived.Test.YtklmcfpgdfibnaaClTxtB
namespace Go.Proofs.Ytklmcfpgdfibnaa.P
open Go Go.Proofs.Ytklmcfpgdfibnaa Go.Proofs.Ytklmcfpgdfibnaa.Eng
set_option maxHeartbeats 4000000
set_option linter.unusedVariables false
set_option linter.unusedSimpArgs false
attribute [local irreducible] prP gP gE gF A7 ixW ldc ldg ldl stc stg scW mkW apW BD cl2 BP DT C0
variable {w0:World}
structure Gr where
 nodes:List Nd
 B1:List Wk
 sites:List ByteArray
def xP (o:AT):Nd:=⟨o.live,o.gen,o.site,o.holds,o.roots,o.field⟩
def wE (h:Hp):Gr:=⟨h.AD.map xP,h.B1,h.sites⟩
theorem IW {l:List Int} {K:J2} (hl:(l.length:Int)≤2^40) (h:K [] [tI l]):cl2 ⟨Try.prog,w0⟩ 141 CY.sg [] [tI l] K:=by
 refine CY.cl2 ?_
 unfold CY.txt
 simp only [AG,AR,AL,AJ,AK,AE,AH,AO,AI,AS,AN,AM,AP,AQ,BE,BM,BJ,BL,BH,BK,BF,A5,AX,AY,A4,A6,AZ]
 refine DQ (K6 l) (by omega) ?_
 rw [List.nil_append];exact h
theorem TM {l:List ByteArray} {K:J2} (hl:(l.length:Int)≤2^40) (h:K [] [tS l]):cl2 ⟨Try.prog,w0⟩ 142 EB.sg [] [tS l] K:=by
 refine EB.cl2 ?_
 unfold EB.txt
 simp only [AG,AR,AL,AJ,AK,AE,AH,AO,AI,AS,AN,AM,AP,AQ,BE,BM,BJ,BL,BH,BK,BF,A5,AX,AY,A4,A6,AZ]
 refine DQ (U2 l) (by omega) ?_
 rw [List.nil_append];exact h
theorem sR {l:List AT} {P:AT→Prop} (h: ∀o∈l,P o) {i:Nat} (hi:i<l.length):P (ob l i):=by rw [←DJ hi];exact h _ (List.getElem_mem hi)
def uF (g:Gr):Int:=szL fT g.nodes+szL UF g.B1+g.sites.length
structure T8 (g:Gr):Prop where
 nl:(g.nodes.length:Int)≤1048576
 nf: ∀o∈g.nodes,(o.field.length:Int)≤1048576
 wl:(g.B1.length:Int)≤1048576
 sl:(g.sites.length:Int)≤1048576
theorem T8.of {h:Hp} (hf:Fits h):T8 (wE h):=by
 refine ⟨?_, ?_,hf.wl,hf.sl⟩
 ·simp only [wE,List.length_map];exact hf.ol
 ·intro o ho
  obtain ⟨x,hx,rfl⟩:=List.mem_map.1 ho
  exact hf.of x hx
theorem T8.nodes {g:Gr} (hf:T8 g):0≤szL fT g.nodes∧szL fT g.nodes≤2^41:=by
 refine ⟨SO m3 _, ?_⟩
 have h1:=XL (sz:=fT) (b:=1048581) (l:=g.nodes) fun o ho=>by have:=hf.nf o ho;unfold fT;omega
 have h2:=hf.nl
 have h3:(g.nodes.length:Int)*1048581≤1048576*1048581:=Int.mul_le_mul_of_nonneg_right h2 (by omega)
 omega
theorem T8.B1 {g:Gr} (hf:T8 g):0≤szL UF g.B1∧szL UF g.B1≤2^41:=by
 refine ⟨SO dP _, ?_⟩
 have h1:=XL (sz:=UF) (b:=2) (l:=g.B1) fun o ho=>by unfold UF;omega
 have h2:=hf.wl
 omega
theorem T8.sz {g:Gr} (hf:T8 g):0≤uF g∧uF g≤2^43:=by
 have h1:=hf.nodes;have h2:=hf.B1;have h4:=hf.sl
 unfold uF;omega
end Go.Proofs.Ytklmcfpgdfibnaa.P
namespace Go.Proofs.Ytklmcfpgdfibnaa.P
open Go Go.Proofs.Ytklmcfpgdfibnaa Go.Proofs.Ytklmcfpgdfibnaa.Eng
set_option maxHeartbeats 4000000
set_option linter.unusedVariables false
set_option linter.unusedSimpArgs false
attribute [local irreducible] prP gP gE gF A7 ixW ldc ldg ldl stc stg scW mkW apW BD cl2 BP DT C0
variable {w0:World}
def LC (id:Int) (o:AT):Nat:=if o.live=true then o.field.count id else 0
def CC (l:List AT) (id:Int):Nat:=(l.map (LC id)).sum
def inE (l:List AT) (s:Int):Int:=if (0≤s∧s≤l.length-1)∧(ob l s.toNat).live=true then CC l (CA s (ob l s.toNat).gen) else 0
theorem XF {l:List AT} {i:Nat} {id:Int} (hi:i<l.length):CC (l.take (i+1)) id=CC (l.take i) id+LC id (ob l i):=by
 rw [CC,List.take_succ_eq_append_getElem hi,List.map_append,List.sum_append,DJ hi];simp [CC]
theorem WO {l:List Int} {j:Nat} {id:Int} (hj:j<l.length):(l.take (j+1)).count id=(l.take j).count id+if gI l j=id then 1 else 0:=by
 rw [List.take_succ_eq_append_getElem hj,List.count_append,DP hj,List.count_singleton]
 simp
theorem rB (id:Int) (o:AT):LC id o≤o.field.length:=by
 unfold LC;split
 ·exact List.count_le_length
 ·exact Nat.zero_le _
theorem NI {l:List AT} {id:Int} {b:Nat} (h: ∀o∈l,o.field.length≤b):CC l id≤l.length*b:=by
 induction l with
 | nil=>simp [CC]
 | cons o l ih=>
   have h1:=ih fun x hx=>h x (by simp [hx])
   have h2:=rB id o
   have h3:=h o (by simp)
   simp only [CC,List.map_cons,List.sum_cons,List.length_cons,Nat.add_mul,Nat.one_mul] at h1 ⊢
   omega
theorem e6 {l:List AT} (hf: ∀o∈l,(o.field.length:Int)≤1048576) (i:Nat):((ob l i).field.length:Int)≤1048576:=by
 by_cases hi:i<l.length
 ·rw [←DJ hi];exact hf _ (List.getElem_mem hi)
 ·unfold ob;rw [List.getD_eq_getElem?_getD,List.getElem?_eq_none (by omega)];simp
theorem WM {a:List AT} {b c d:List T} {s:Int} {K:J2} (hs:F64 s) (hl:(a.length:Int)≤1048576) (hf: ∀o∈a,(o.field.length:Int)≤1048576) (h:K [I (inE a s)] []):cl2 ⟨Try.prog,w0⟩ 100 FR.sg [I s] [tR tO a,b,c,d] K:=by
 obtain ⟨s1,s2⟩:=hs
 refine FR.cl2 ?_
 unfold FR.txt
 simp only [AG,AR,AL,AJ,AK,AE,AH,AO,AI,AS,AN,AM,AP,AQ,BE,BM,BJ,BL,BH,BK,BF,A5,AX,AY,A4,A6,AZ]
 repeat' (first | refine P3 ?_ | refine KO ?_ | refine BU ?_ | refine OR (by first | with_reducible assumption | omega) ?_ | refine I2 (by first | with_reducible assumption | omega) ?_ | refine FI (by first | with_reducible assumption | omega) rfl ?_ | refine FL (by first | with_reducible assumption | omega) rfl ?_ | refine CM ?_ | refine FD ?_ | refine IT ⟨by omega,by omega⟩ ?_ | refine S8 (by omega) (by omega) ?_ | refine II (by omega) (by decide) rfl ?_ | refine JJ (by omega) rfl ?_ | refine MS (fun _=> ?_) (fun _=> ?_) | refine RG (fun _=> ?_) (fun _=> ?_) | refine C3 ?_ | simp only [AG,AR,AL,AJ,AK,AE,AH,AO,AI,AS,AN,AM,AP,AQ,BE,BM,BJ,BL,BH,BK,BF,A5,AX,AY,A4,A6,AZ])
 ·rw [inE,if_neg (by simp_all)] at h;exact h
 ·rename_i hin hlv
  have hin:0≤s∧s≤(a.length:Int)-1:=Decidable.not_not.1 hin
  rw [inE,if_pos ⟨hin,by simpa using hlv⟩] at h
  generalize CA s (ob a s.toNat).gen=id at h ⊢
  refine BC (fun i=>[I id,I (CC (a.take i) id),iv a.length,iv i]) (fun _=>[]) a.length (fun _=>True) rfl rfl trivial (fun R i hi _ hR=> ?_)
  have he:=NI (l:=a.take i) (id:=id) (b:=1048576) fun o ho=>by have:=hf o (List.mem_of_mem_take ho);omega
  have hln:(a.take i).length≤a.length:=by simp;omega
  have hmul:(a.take i).length*1048576≤1048576*1048576:=Nat.mul_le_mul_right _ (by omega)
  have hfo:=e6 hf i
  simp only [AG,AR,AL,AJ,AK,AE,AH,AO,AI,AS,AN,AM,AP,AQ,BE,BM,BJ,BL,BH,BK,BF,A5,AX,AY,A4,A6,AZ]
  refine A8 (AW (fun hlt=> ?_) fun hge=> ?_)
  ·have hlt:i<a.length:=by omega
   replace hR:=hR hlt trivial
   rw [XF hlt,LC] at hR
   refine AU hlt (L7 hlt ?_)
   rw [G9 hlt,AE]
   refine BC (fun j=>[I id,I ((CC (a.take i) id+(if (ob a i).live=true then ((ob a i).field.take j).count id else 0):Nat):Int),iv a.length,iv i,iv (AB (iv i)*8+6),iv (ob a i).field.length,iv j, .bool (ob a i).live,I (ob a i).gen,I (ob a i).site,I (ob a i).holds,I (ob a i).roots,I (ob a i).count,iv (AB (iv i)*8+6), .bool (ob a i).purple]) (fun _=>[]) (ob a i).field.length (fun _=>True) (by simp only [List.take_zero,List.count_nil,ite_self,Nat.add_zero];rfl) rfl trivial (fun R2 j hj _ hR2=> ?_)
   have hc:((ob a i).field.take j).count id≤j:=Nat.le_trans List.count_le_length (by simp;omega)
   simp only [AG,AR,AL,AJ,AK,AE,AH,AO,AI,AS,AN,AM,AP,AQ,BE,BM,BJ,BL,BH,BK,BF,A5,AX,AY,A4,A6,AZ]
   refine A8 (AW (fun hlt2=> ?_) fun hge2=> ?_)
   ·have hlt2:j<(ob a i).field.length:=by omega
    replace hR2:=hR2 hlt2 trivial
    rw [WO hlt2] at hR2
    rw [BB (AB (iv i)*8+6),G9 hlt,AE]
    refine BQ (AU hlt2 (LX hlt hlt2 (BU (BU ?_))))
    by_cases hv:(ob a i).live=true
    ·simp only [if_pos hv] at hR2 ⊢
     refine O7 hv (BV (o7 hv rfl (AW (fun he=> ?_) fun he=> ?_)))
     ·rw [if_pos he] at hR2
      exact FT ⟨by omega,by omega⟩ (A9 (by omega) hR2)
     ·rw [if_neg he] at hR2
      exact A9 (by omega) hR2
    ·have hv:(ob a i).live=false:=by simpa using hv
     simp only [hv,Bool.false_eq_true,if_false] at hR2 ⊢
     exact JW (ZI rfl (B7 (A9 (by omega) hR2)))
   ·have:j=(ob a i).field.length:=by omega
    subst this
    rw [List.take_length] at hc ⊢
    exact A9 (by omega) hR
  ·have:i=a.length:=by omega
   subst this
   rw [List.take_length];exact h
 ·rw [inE,if_neg (by rintro ⟨h1,h2⟩;simp_all)] at h;exact h
theorem PV {a:List AT} {b c d:List T} {s:Int} {K:J2} (hs:F64 s) (hl:(a.length:Int)≤1048576) (hf: ∀o∈a,(o.field.length:Int)≤1048576) (h:K [I (inE a s)] []):cl2 ⟨Try.prog,w0⟩ 88 EC.sg [I s] [tR tO a,b,c,d] K:=by
 obtain ⟨s1,s2⟩:=hs
 refine EC.cl2 ?_
 unfold EC.txt
 simp only [AG,AR,AL,AJ,AK,AE,AH,AO,AI,AS,AN,AM,AP,AQ,BE,BM,BJ,BL,BH,BK,BF,A5,AX,AY,A4,A6,AZ]
 repeat' (first | refine DY ?_ | refine G7 ?_ | refine BU ?_ | refine OR (by first | with_reducible assumption | omega) ?_ | refine I2 (by first | with_reducible assumption | omega) ?_ | refine FI (by first | with_reducible assumption | omega) rfl ?_ | refine FL (by first | with_reducible assumption | omega) rfl ?_ | refine CM ?_ | refine FD ?_ | refine IT ⟨by omega,by omega⟩ ?_ | refine S8 (by omega) (by omega) ?_ | refine II (by omega) (by decide) rfl ?_ | refine JJ (by omega) rfl ?_ | refine MS (fun _=> ?_) (fun _=> ?_) | refine RG (fun _=> ?_) (fun _=> ?_) | refine C3 ?_ | simp only [AG,AR,AL,AJ,AK,AE,AH,AO,AI,AS,AN,AM,AP,AQ,BE,BM,BJ,BL,BH,BK,BF,A5,AX,AY,A4,A6,AZ])
 ·rw [inE,if_neg (by simp_all)] at h;exact h
 ·rename_i hin hlv
  have hin:0≤s∧s≤(a.length:Int)-1:=Decidable.not_not.1 hin
  rw [inE,if_pos ⟨hin,by simpa using hlv⟩] at h
  generalize CA s (ob a s.toNat).gen=id at h ⊢
  refine BC (fun i=>[I (CC (a.take i) id),I id,iv i]) (fun _=>[]) a.length (fun _=>True) rfl rfl trivial (fun R i hi _ hR=> ?_)
  have he:=NI (l:=a.take i) (id:=id) (b:=1048576) fun o ho=>by have:=hf o (List.mem_of_mem_take ho);omega
  have hln:(a.take i).length≤a.length:=by simp;omega
  have hmul:(a.take i).length*1048576≤1048576*1048576:=Nat.mul_le_mul_right _ (by omega)
  have hfo:=e6 hf i
  simp only [AG,AR,AL,AJ,AK,AE,AH,AO,AI,AS,AN,AM,AP,AQ,BE,BM,BJ,BL,BH,BK,BF,A5,AX,AY,A4,A6,AZ]
  refine A8 (AW (fun hlt=> ?_) fun hge=> ?_)
  ·have hlt:i<a.length:=by omega
   replace hR:=hR hlt trivial
   rw [XF hlt,LC] at hR
   refine BC (fun j=>[I ((CC (a.take i) id+(if (ob a i).live=true then ((ob a i).field.take j).count id else 0):Nat):Int),I id,iv i,iv j]) (fun _=>[]) (ob a i).field.length (fun _=>True) (by simp only [List.take_zero,List.count_nil,ite_self,Nat.add_zero];rfl) rfl trivial (fun R2 j hj _ hR2=> ?_)
   have hc:((ob a i).field.take j).count id≤j:=Nat.le_trans List.count_le_length (by simp;omega)
   refine AU hlt (VU hlt ?_)
   rw [G9 hlt,AE]
   by_cases hv:(ob a i).live=true
   ·simp only [if_pos hv] at hR hR2 ⊢
    refine A8 (BU (BU (BU (MH (fun hlt2=> ?_) fun hge2=> ?_))))
    ·have hlt2':j<(ob a i).field.length:=by
      have:(j:Int)<((ob a i).field.length:Int):=hlt2
      omega
     replace hR2:=hR2 hlt2' trivial
     rw [WO hlt2'] at hR2
     refine AU hlt (BU (KX hlt2 (JJ hlt rfl (FI hlt2 rfl (jQ hv (BQ (AU hlt (VU hlt ?_))))))))
     rw [G9 hlt,AE]
     refine AU hlt2' (LX hlt hlt2' (BV (AW (fun he=> ?_) fun he=> ?_)))
     ·rw [if_pos he] at hR2
      exact FT ⟨by omega,by omega⟩ (A9 (by omega) hR2)
     ·rw [if_neg he] at hR2
      exact A9 (by omega) hR2
    ·have:j=(ob a i).field.length:=by
      have: ¬(j:Int)<((ob a i).field.length:Int):=hge2
      omega
     subst this
     rw [List.take_length] at hc ⊢
     exact BU (OQ hge2 (FL hge2 rfl (B7 (A9 (by omega) hR))))
   ·have hv:(ob a i).live=false:=by simpa using hv
    simp only [hv,Bool.false_eq_true,if_false] at hR hR2 ⊢
    refine A8 (BU (BU (BU (MH (fun hlt2=> ?_) fun hge2=> ?_))))
    ·exact AU hlt (BU (KX hlt2 (JJ hlt (v:= .bool false) (by rw [←hv];rfl) (FI hlt2 rfl (B7 (A9 (by omega) hR))))))
    ·exact BU (OQ hge2 (FL hge2 rfl (B7 (A9 (by omega) hR))))
  ·have:i=a.length:=by omega
   subst this
   rw [List.take_length];exact h
 ·rw [inE,if_neg (by rintro ⟨h1,h2⟩;simp_all)] at h;exact h
theorem YA {l:List Int} {i:Nat} {x:Int} (hi:i<l.length) (h:x∉l.take i) (hn:gI l i≠x):x∉l.take (i+1):=by
 rw [List.take_succ_eq_append_getElem hi,DP hi]
 simp only [List.mem_append,List.mem_singleton,not_or]
 exact ⟨h,fun he=>hn he.symm⟩
theorem DN {l:List Int} {i:Nat} (h:i<l.length):gI l i∈l:=by rw [←DP h];exact List.getElem_mem h
theorem Q8 {l:List Int} {x:Int} {K:J2} (hl:(l.length:Int)<2^62) (h:K [.bool (decide (x∈l))] []):cl2 ⟨Try.prog,w0⟩ 91 E9.sg [I x] [tI l] K:=by
 refine E9.cl2 ?_
 unfold E9.txt
 simp only [AG,AR,AL,AJ,AK,AE,AH,AO,AI,AS,AN,AM,AP,AQ,BE,BM,BJ,BL,BH,BK,BF,A5,AX,AY,A4,A6,AZ]
 refine BC (fun i=>[I x,iv l.length,iv i]) (fun _=>[]) l.length (fun i=>x∉l.take i) rfl rfl (by simp) (fun R i hi hP hR=> ?_)
 refine A8 (AW (fun hlt=> ?_) fun hge=> ?_)
 ·have hlt:i<l.length:=by omega
  refine AU hlt (ldI hlt (BV (AW (fun he=> ?_) fun he=> ?_)))
  ·rw [decide_eq_true (he ▸ DN hlt)] at h;exact h
  ·exact A9 (by omega) (hR hlt (YA hlt hP he))
 ·have:i=l.length:=by omega
  subst this
  rw [List.take_length] at hP
  rw [decide_eq_false hP] at h;exact h
theorem IE {l:List Int} {x:Int} {K:J2} (hl:(l.length:Int)<2^62) (h:K [.bool (decide (x∈l))] []):cl2 ⟨Try.prog,w0⟩ 89 CN.sg [I x] [tI l] K:=by
 refine CN.cl2 ?_
 unfold CN.txt
 simp only [AG,AR,AL,AJ,AK,AE,AH,AO,AI,AS,AN,AM,AP,AQ,BE,BM,BJ,BL,BH,BK,BF,A5,AX,AY,A4,A6,AZ]
 refine BC (fun i=>[I x,iv i]) (fun _=>[]) l.length (fun i=>x∉l.take i) rfl rfl (by simp) (fun R i hi hP hR=> ?_)
 refine A8 (AW (fun hlt=> ?_) fun hge=> ?_)
 ·have hlt:i<l.length:=by omega
  refine AU hlt (ldI hlt (BV (AW (fun he=> ?_) fun he=> ?_)))
  ·rw [decide_eq_true (he ▸ DN hlt)] at h;exact h
  ·exact A9 (by omega) (hR hlt (YA hlt hP he))
 ·have:i=l.length:=by omega
  subst this
  rw [List.take_length] at hP
  rw [decide_eq_false hP] at h;exact h
attribute [irreducible] inE CC
end Go.Proofs.Ytklmcfpgdfibnaa.P
namespace Go.Proofs.Ytklmcfpgdfibnaa.P
open Go Go.Proofs.Ytklmcfpgdfibnaa Go.Proofs.Ytklmcfpgdfibnaa.Eng
set_option linter.unusedVariables false
def inB (n lo hi:Int):Bool:=decide (n≥lo)&&decide (n≤hi)
def PK (n:Int):Bool:=inB n (-1000000000) 1000000000
def uY (a b c d:Int) (s:ByteArray):Bool:=(((PK a&&PK b)&&PK c)&&PK d)&&decide ((s.size:Int)≤8)
def wF (c v:Int) (l:List Int):Bool:=(inB c 0 6&&PK v&&decide (l.length≤8))&&l.all PK
end Go.Proofs.Ytklmcfpgdfibnaa.P
namespace Go.Proofs.Ytklmcfpgdfibnaa.P
open Go Go.Proofs.Ytklmcfpgdfibnaa Go.Proofs.Ytklmcfpgdfibnaa.Eng
set_option linter.unusedVariables false
def MU (l:List Nat):ByteArray:=l.foldl (fun b n=>b.push (UInt8.ofNat n)) ByteArray.empty
theorem dR (l:List Nat):(MU l).size=l.length:=by
 have: ∀(l:List Nat) (b:ByteArray),(l.foldl (fun b n=>b.push (UInt8.ofNat n)) b).size=b.size+l.length:=by
  intro l
  induction l with
  | nil=>intro b;rfl
  | cons a l ih=>intro b;rw [List.foldl_cons,ih,ByteArray.size_push,List.length_cons];omega
 rw [MU,this];simp
def vd:Nat→Nat→List Nat
 | 0,n=>[n]
 | k+1,n=>if n≥128 then (128+n % 128)::vd k (n/128) else [n]
theorem mF: ∀k n,(vd k n).length≤k+1
 | 0,n=>by simp [vd]
 | k+1,n=>by
   unfold vd;split
   ·have:=mF k (n/128);simp only [List.length_cons];omega
   ·simp
def V (n:Int):ByteArray:=if inB n 0 562949953421311 then MU (vd 6 n.toNat) else ⟨#[]⟩
theorem RN (n:Int):(V n).size≤7:=by
 unfold V;split
 ·rw [dR];exact mF 6 _
 ·exact Nat.zero_le _
attribute [irreducible] V
end Go.Proofs.Ytklmcfpgdfibnaa.P
namespace Go.Proofs.Ytklmcfpgdfibnaa.P
open Go Go.Proofs.Ytklmcfpgdfibnaa Go.Proofs.Ytklmcfpgdfibnaa.Eng
set_option linter.unusedVariables false
def zg (n:Int):Int:=if inB n (-100000000000000) 100000000000000 then (if n<0 then -2*n-1 else 2*n) else -1
theorem iP {n lo hi:Int}:inB n lo hi=true↔lo≤n∧n≤hi:=by simp [inB]
def SI (n:Int):ByteArray:=V (zg n)
def ST (s:ByteArray):ByteArray:=if (s.size:Int)>8 then ⟨#[]⟩ else V s.size++s
theorem qN (s:ByteArray):(ST s).size≤15:=by
 unfold ST;split
 ·exact Nat.zero_le _
 ·have:=RN s.size
  rw [ByteArray.size_append];omega
instance :LawfulBEq ByteArray where
 eq_of_beq {a b} h:=by
  cases a;cases b
  have h:_==_:=h
  first | exact congrArg _ (eq_of_beq h) | (simp [BEq.beq,instBEqByteArray.beq] at h;simpa using h) | (simp_all)
 rfl {a}:=by
  cases a
  first | exact beq_self_eq_true (α:=Array UInt8) _ | (show ByteArray.beq _ _=true;unfold ByteArray.beq;simp) | (simp [BEq.beq,ByteArray.beq])
def at_ (l:List ByteArray) (s:ByteArray):Int:=if s∈l then (l.idxOf s:Int) else -1
end Go.Proofs.Ytklmcfpgdfibnaa.P
namespace Go.Proofs.Ytklmcfpgdfibnaa.P
open Go Go.Proofs.Ytklmcfpgdfibnaa Go.Proofs.Ytklmcfpgdfibnaa.Eng
set_option linter.unusedVariables false
def szB (s:ByteArray):Bool:=decide ((s.size:Int)≤8)
def vS (l:List ByteArray):Bool:=l.all szB&&decide l.Nodup
def wN (n:Int) (l:List ByteArray):Bool:=(PK n&&decide (l.length≤400))&&vS l
theorem lT {n i:Nat} (hi:i≤n) {K:Value→Value→Prop} (h:K (iv 0) (iv i)):scW n none (some (iv i)) K:=
 ⟨0,i,rfl,by simp [bnd,iv],Nat.zero_le _,hi,h⟩
def pE (l:List ByteArray) (s:ByteArray):ByteArray:=if s∈l then V (at_ l s+1) else V 0++ST s
def wL (l:List ByteArray) (s:ByteArray):List ByteArray:=if s∈l then l else l++[s]
end Go.Proofs.Ytklmcfpgdfibnaa.P
namespace Go.Proofs.Ytklmcfpgdfibnaa.P
open Go Go.Proofs.Ytklmcfpgdfibnaa Go.Proofs.Ytklmcfpgdfibnaa.Eng
set_option maxHeartbeats 4000000
set_option linter.unusedVariables false
set_option linter.unusedSimpArgs false
attribute [local irreducible] prP gP gE gF A7 ixW ldc ldg ldl stc stg scW mkW apW BD cl2 BP DT C0
variable {w0:World}
theorem jU {a:List AT} {i:Nat} (hi:i<a.length):tR tO (a.take i)++[T.c (.bool (ob a i).live), .c (I (ob a i).gen), .c (I (ob a i).site), .c (I (ob a i).holds), .c (I (ob a i).roots), .c (I (ob a i).count), .l 1 (tI (ob a i).field), .c (.bool (ob a i).purple)]=tR tO (a.take (i+1)):=by
 rw [List.take_succ_eq_append_getElem hi,DJ hi]
 exact rG _ (ob a i)
theorem UJ {h:Hp} {K:J2} (hf:Fits h) (hk:K [] (trees h)):cl2 ⟨Try.prog,w0⟩ 97 ES.sg [] (trees h) K:=by
 obtain ⟨a,b,c,d⟩:=h
 have g1:=hf.ol;have g2:=hf.wl;have g3:=hf.sl;have g4:=hf.bl
 simp only at g1 g2 g3 g4
 refine ES.cl2 ?_
 unfold ES.txt
 simp only [AG,AR,AL,AJ,AK,AE,AH,AO,AI,AS,AN,AM,AP,AQ,BE,BM,BJ,BL,BH,BK,BF,A5,AX,AY,A4,A6,AZ]
 refine DQ (VA _) (by omega) (IW (by omega) (TM (by omega) ?_))
 refine BC (fun i=>[iv a.length,iv i]) (fun i=>[tR tO (a.take i),tR tW b,tI c,tS d]) a.length (fun _=>True) rfl rfl trivial (fun R i hi hP hR=> ?_)
 simp only [AG,AR,AL,AJ,AK,AE,AH,AO,AI,AS,AN,AM,AP,AQ,BE,BM,BJ,BL,BH,BK,BF,A5,AX,AY,A4,A6,AZ]
 refine A8 (AW (fun hlt=> ?_) fun hge=> ?_)
 ·have hlt:i<a.length:=by omega
  have hfo:((ob a i).field.length:Int)≤1048576:=sR (l:=a) hf.of hlt
  have hln:(a.take i).length=i:=by simp;omega
  replace hR:=hR hlt trivial
  refine AU hlt (L7 hlt ?_)
  rw [G9 hlt]
  refine IW (by omega) (l6 (by rw [hln];omega) (A9 (by omega) ?_))
  rw [←jU hlt] at hR
  exact hR
 ·have:i=a.length:=by omega
  subst this
  rw [List.take_length];exact hk
theorem KF {h:Hp} {K:J2} (hf:Fits h) (hk:K [] (trees h)):cl2 ⟨Try.prog,w0⟩ 122 C8.sg [] (trees h) K:=by
 obtain ⟨a,b,c,d⟩:=h
 have g1:=hf.ol;have g2:=hf.wl;have g3:=hf.sl;have g4:=hf.bl
 simp only at g1 g2 g3 g4
 refine C8.cl2 ?_
 unfold C8.txt
 simp only [AG,AR,AL,AJ,AK,AE,AH,AO,AI,AS,AN,AM,AP,AQ,BE,BM,BJ,BL,BH,BK,BF,A5,AX,AY,A4,A6,AZ]
 refine DQ (VA _) (by simp only [cnt,List.length_nil];omega) (DQ (K6 _) (by omega) (DQ (U2 _) (by omega) ?_))
 refine BC (fun i=>[iv i]) (fun i=>[tR tO (a.take i),tR tW b,tI c,tS d]) a.length (fun _=>True) rfl rfl trivial (fun R i hi hP hR=> ?_)
 simp only [AG,AR,AL,AJ,AK,AE,AH,AO,AI,AS,AN,AM,AP,AQ,BE,BM,BJ,BL,BH,BK,BF,A5,AX,AY,A4,A6,AZ]
 refine A8 (AW (fun hlt=> ?_) fun hge=> ?_)
 ·have hlt:i<a.length:=by omega
  have hfo:((ob a i).field.length:Int)≤1048576:=sR (l:=a) hf.of hlt
  have hln:(a.take i).length=i:=by simp;omega
  replace hR:=hR hlt trivial
  refine AU hlt (L7 hlt ?_)
  rw [G9 hlt]
  refine DQ (K6 _) (by first | omega | (simp only [AG,AR,AL,AJ,AK,AE,AH,AO,AI,AS,AN,AM,AP,AQ,BE,BM,BJ,BL,BH,BK,BF,A5,AX,AY,A4,A6,AZ];omega)) (l6 (by rw [hln];omega) (A9 (by omega) ?_))
  rw [←jU hlt] at hR
  exact hR
 ·have:i=a.length:=by omega
  subst this
  rw [List.take_length];exact hk
structure MD (l:List ByteArray):Prop where
 len:l.length≤6
 sz: ∀i,i<l.length→1≤((gS l i).size:Int)∧((gS l i).size:Int)≤8
 one: ∀i,i<l.length→gS l i∉l.take i
theorem fN {l:List ByteArray} {i:Nat} {x:ByteArray} (hi:i<l.length) (h:x∉l.take i) (hn:gS l i≠x):x∉l.take (i+1):=by
 rw [List.take_succ_eq_append_getElem hi,SL hi]
 simp only [List.mem_append,List.mem_singleton,not_or]
 exact ⟨h,fun he=>hn he.symm⟩
structure T6 (h:Hp) (i:Nat):Prop where
 gen:0≤(ob h.AD i).gen∧(ob h.AD i).gen≤999
 len:(ob h.AD i).field.length=3
 lead: ∀j,j<3→gI (ob h.AD i).field j≠ -1→(ob h.AD i).live=true∧0≤AA h.AD (gI (ob h.AD i).field j)
 dead:(ob h.AD i).live=false→(ob h.AD i).site=0∧(ob h.AD i).holds=0∧(ob h.AD i).roots=0∧(ob h.AD i).count=0∧(ob h.AD i).purple=false
 lv:(ob h.AD i).live=true→1≤(ob h.AD i).gen∧(0≤(ob h.AD i).site∧(ob h.AD i).site≤(h.sites.length:Int)-1)∧(0≤(ob h.AD i).holds∧(ob h.AD i).holds≤20)∧(0≤(ob h.AD i).roots∧(ob h.AD i).roots≤20)∧
  (ob h.AD i).count=(ob h.AD i).holds+(ob h.AD i).roots+inE h.AD i∧1≤(ob h.AD i).count∧(ob h.AD i).purple=decide (CA i (ob h.AD i).gen∈h.buffer)
structure BX (h:Hp):Prop where
 ol:h.AD.length=8
 wl:h.B1.length=8
 sites:MD h.sites
 obj: ∀i,i<8→T6 h i
 weak: ∀i,i<8→((wk h.B1 i).used=false→(wk h.B1 i).target=0)∧((wk h.B1 i).used=true→8≤(wk h.B1 i).target∧(wk h.B1 i).target≤7999)
 buf: ∀i,i<h.buffer.length→0≤AA h.AD (gI h.buffer i)∧gI h.buffer i∉h.buffer.take i
theorem sU {l:List Int} {P:Int→Prop} (h0:P 0) (h: ∀x∈l,P x) (i:Nat):P (gI l i):=by
 by_cases hi:i<l.length
 ·rw [←DP hi];exact h _ (List.getElem_mem hi)
 ·unfold gI;rw [List.getD_eq_getElem?_getD,List.getElem?_eq_none (by omega)];exact h0
theorem VO:F64 0:=⟨by omega,by omega⟩
theorem UG.ob {h:Hp} (hn:UG h) (i:Nat):F64 (ob h.AD i).gen∧F64 (ob h.AD i).site∧F64 (ob h.AD i).holds∧F64 (ob h.AD i).roots∧F64 (ob h.AD i).count∧ ∀f∈(ob h.AD i).field,F64 f:=by
 by_cases hi:i<h.AD.length
 ·rw [←DJ hi];exact hn.obj _ (List.getElem_mem hi)
 ·unfold Eng.ob;rw [List.getD_eq_getElem?_getD,List.getElem?_eq_none (by omega)]
  exact ⟨VO,VO,VO,VO,VO,fun f hf=>by simp at hf⟩
theorem UG.fld {h:Hp} (hn:UG h) (i j:Nat):F64 (gI (Eng.ob h.AD i).field j):=sU VO (hn.ob i).2.2.2.2.2 j
theorem UG.bf {h:Hp} (hn:UG h) (i:Nat):F64 (gI h.buffer i):=sU VO hn.buf i
theorem mO {l:List AT} (hl:(l.length:Int)≤1048576) (hf: ∀o∈l,(o.field.length:Int)≤1048576) (s:Int):0≤inE l s∧inE l s≤2^40:=by
 rw [inE];split
 ·have he:=NI (l:=l) (id:=CA s (ob l s.toNat).gen) (b:=1048576) fun o ho=>by have:=hf o ho;omega
  have hmul:l.length*1048576≤1048576*1048576:=Nat.mul_le_mul_right _ (by omega)
  omega
 ·omega
end Go.Proofs.Ytklmcfpgdfibnaa.P
