/- A part of the proof. -/
import Derived.Test.YtklmcfpgdfibnaaPtHpA
import Derived.Test.YtklmcfpgdfibnaaPtLawTyNode
import Derived.Test.YtklmcfpgdfibnaaPtRowT
import Derived.Test.YtklmcfpgdfibnaaPtTxtB
namespace Go.Proofs.Ytklmcfpgdfibnaa.P
open Go Go.Proofs.Ytklmcfpgdfibnaa Go.Proofs.Ytklmcfpgdfibnaa.Eng
set_option maxHeartbeats 4000000
set_option linter.unusedVariables false
set_option linter.unusedSimpArgs false
attribute [local irreducible] prP gP gE gF AW ixW ldc ldg ldl stc stg scW mkW apW BK cl2 BW EI CM
variable {w0:World}
structure Gr where
 nodes:List Nd
 B2:List Wk
 sites:List ByteArray
def vF (o:AU):Nd:=⟨o.live,o.gen,o.site,o.holds,o.roots,o.field⟩
def u6 (h:Hp):Gr:=⟨h.A8.map vF,h.B2,h.sites⟩
theorem HN {l:List Int} {K:J2} (hl:(l.length:Int)≤2^40) (h:K [] [tI l]):cl2 ⟨Try.prog,w0⟩ 141 CI.sg [] [tI l] K:=by
 refine CI.cl2 ?_
 unfold CI.txt
 simp only [AG,AM,AK,AP,AI,AD,AE,AR,AQ,AO,AL,AJ,AN,AH,BC,BF,BJ,BG,BH,BI,BE,A6,A7,A1,A4,A5,AZ]
 refine EM (MG l) (by omega) ?_
 rw [List.nil_append];exact h
theorem TD {l:List ByteArray} {K:J2} (hl:(l.length:Int)≤2^40) (h:K [] [tS l]):cl2 ⟨Try.prog,w0⟩ 142 D8.sg [] [tS l] K:=by
 refine D8.cl2 ?_
 unfold D8.txt
 simp only [AG,AM,AK,AP,AI,AD,AE,AR,AQ,AO,AL,AJ,AN,AH,BC,BF,BJ,BG,BH,BI,BE,A6,A7,A1,A4,A5,AZ]
 refine EM (ZW l) (by omega) ?_
 rw [List.nil_append];exact h
theorem qP {l:List AU} {P:AU→Prop} (h: ∀o∈l,P o) {i:Nat} (hi:i<l.length):P (ob l i):=by rw [←DN hi];exact h _ (List.getElem_mem hi)
def sT (g:Gr):Int:=szL dU g.nodes+szL T1 g.B2+g.sites.length
structure TK (g:Gr):Prop where
 nl:(g.nodes.length:Int)≤1048576
 nf: ∀o∈g.nodes,(o.field.length:Int)≤1048576
 wl:(g.B2.length:Int)≤1048576
 sl:(g.sites.length:Int)≤1048576
theorem TK.of {h:Hp} (hf:Fits h):TK (u6 h):=by
 refine ⟨?_, ?_,hf.wl,hf.sl⟩
 ·simp only [u6,List.length_map];exact hf.ol
 ·intro o ho
  obtain ⟨x,hx,rfl⟩:=List.mem_map.1 ho
  exact hf.of x hx
theorem TK.nodes {g:Gr} (hf:TK g):0≤szL dU g.nodes∧szL dU g.nodes≤2^41:=by
 refine ⟨RS l8 _, ?_⟩
 have h1:=VB (sz:=dU) (b:=1048581) (l:=g.nodes) fun o ho=>by have:=hf.nf o ho;unfold dU;omega
 have h2:=hf.nl
 have h3:(g.nodes.length:Int)*1048581≤1048576*1048581:=Int.mul_le_mul_of_nonneg_right h2 (by omega)
 omega
theorem TK.B2 {g:Gr} (hf:TK g):0≤szL T1 g.B2∧szL T1 g.B2≤2^41:=by
 refine ⟨RS bZ _, ?_⟩
 have h1:=VB (sz:=T1) (b:=2) (l:=g.B2) fun o ho=>by unfold T1;omega
 have h2:=hf.wl
 omega
theorem TK.sz {g:Gr} (hf:TK g):0≤sT g∧sT g≤2^43:=by
 have h1:=hf.nodes;have h2:=hf.B2;have h4:=hf.sl
 unfold sT;omega
end Go.Proofs.Ytklmcfpgdfibnaa.P
namespace Go.Proofs.Ytklmcfpgdfibnaa.P
open Go Go.Proofs.Ytklmcfpgdfibnaa Go.Proofs.Ytklmcfpgdfibnaa.Eng
set_option maxHeartbeats 4000000
set_option linter.unusedVariables false
set_option linter.unusedSimpArgs false
attribute [local irreducible] prP gP gE gF AW ixW ldc ldg ldl stc stg scW mkW apW BK cl2 BW EI CM
variable {w0:World}
def NA (id:Int) (o:AU):Nat:=if o.live=true then o.field.count id else 0
def CE (l:List AU) (id:Int):Nat:=(l.map (NA id)).sum
def inE (l:List AU) (s:Int):Int:=if (0≤s∧s≤l.length-1)∧(ob l s.toNat).live=true then CE l (CH s (ob l s.toNat).gen) else 0
theorem VS {l:List AU} {i:Nat} {id:Int} (hi:i<l.length):CE (l.take (i+1)) id=CE (l.take i) id+NA id (ob l i):=by
 rw [CE,List.take_succ_eq_append_getElem hi,List.map_append,List.sum_append,DN hi];simp [CE]
theorem VY {l:List Int} {j:Nat} {id:Int} (hj:j<l.length):(l.take (j+1)).count id=(l.take j).count id+if gI l j=id then 1 else 0:=by
 rw [List.take_succ_eq_append_getElem hj,List.count_append,EN hj,List.count_singleton]
 simp
theorem o6 (id:Int) (o:AU):NA id o≤o.field.length:=by
 unfold NA;split
 ·exact List.count_le_length
 ·exact Nat.zero_le _
theorem MY {l:List AU} {id:Int} {b:Nat} (h: ∀o∈l,o.field.length≤b):CE l id≤l.length*b:=by
 induction l with
 | nil=>simp [CE]
 | cons o l ih=>
   have h1:=ih fun x hx=>h x (by simp [hx])
   have h2:=o6 id o
   have h3:=h o (by simp)
   simp only [CE,List.map_cons,List.sum_cons,List.length_cons,Nat.add_mul,Nat.one_mul] at h1 ⊢
   omega
theorem Z5 {l:List AU} (hf: ∀o∈l,(o.field.length:Int)≤1048576) (i:Nat):((ob l i).field.length:Int)≤1048576:=by
 by_cases hi:i<l.length
 ·rw [←DN hi];exact hf _ (List.getElem_mem hi)
 ·unfold ob;rw [List.getD_eq_getElem?_getD,List.getElem?_eq_none (by omega)];simp
theorem OJ {a:List AU} {b c d:List T} {s:Int} {K:J2} (hs:F64 s) (hl:(a.length:Int)≤1048576) (hf: ∀o∈a,(o.field.length:Int)≤1048576) (h:K [I (inE a s)] []):cl2 ⟨Try.prog,w0⟩ 100 D9.sg [I s] [tR tO a,b,c,d] K:=by
 obtain ⟨s1,s2⟩:=hs
 refine D9.cl2 ?_
 unfold D9.txt
 simp only [AG,AM,AK,AP,AI,AD,AE,AR,AQ,AO,AL,AJ,AN,AH,BC,BF,BJ,BG,BH,BI,BE,A6,A7,A1,A4,A5,AZ]
 repeat' (first | refine GI ?_ | refine KH ?_ | refine BO ?_ | refine KG (by first | with_reducible assumption | omega) ?_ | refine F5 (by first | with_reducible assumption | omega) ?_ | refine C4 (by first | with_reducible assumption | omega) rfl ?_ | refine C5 (by first | with_reducible assumption | omega) rfl ?_ | refine BX ?_ | refine DI ?_ | refine H2 ⟨by omega,by omega⟩ ?_ | refine PB (by omega) (by omega) ?_ | refine HX (by omega) (by decide) rfl ?_ | refine KB (by omega) rfl ?_ | refine JF (fun _=> ?_) (fun _=> ?_) | refine SW (fun _=> ?_) (fun _=> ?_) | refine B1 ?_ | simp only [AG,AM,AK,AP,AI,AD,AE,AR,AQ,AO,AL,AJ,AN,AH,BC,BF,BJ,BG,BH,BI,BE,A6,A7,A1,A4,A5,AZ])
 ·rw [inE,if_neg (by simp_all)] at h;exact h
 ·rename_i hin hlv
  have hin:0≤s∧s≤(a.length:Int)-1:=Decidable.not_not.1 hin
  rw [inE,if_pos ⟨hin,by simpa using hlv⟩] at h
  generalize CH s (ob a s.toNat).gen=id at h ⊢
  refine BB (fun i=>[I id,I (CE (a.take i) id),iv a.length,iv i]) (fun _=>[]) a.length (fun _=>True) rfl rfl trivial (fun R i hi _ hR=> ?_)
  have he:=MY (l:=a.take i) (id:=id) (b:=1048576) fun o ho=>by have:=hf o (List.mem_of_mem_take ho);omega
  have hln:(a.take i).length≤a.length:=by simp;omega
  have hmul:(a.take i).length*1048576≤1048576*1048576:=Nat.mul_le_mul_right _ (by omega)
  have hfo:=Z5 hf i
  simp only [AG,AM,AK,AP,AI,AD,AE,AR,AQ,AO,AL,AJ,AN,AH,BC,BF,BJ,BG,BH,BI,BE,A6,A7,A1,A4,A5,AZ]
  refine AX (AV (fun hlt=> ?_) fun hge=> ?_)
  ·have hlt:i<a.length:=by omega
   replace hR:=hR hlt trivial
   rw [VS hlt,NA] at hR
   refine AT hlt (K9 hlt ?_)
   rw [GZ hlt,AD]
   refine BB (fun j=>[I id,I ((CE (a.take i) id+(if (ob a i).live=true then ((ob a i).field.take j).count id else 0):Nat):Int),iv a.length,iv i,iv (AA (iv i)*8+6),iv (ob a i).field.length,iv j, .bool (ob a i).live,I (ob a i).gen,I (ob a i).site,I (ob a i).holds,I (ob a i).roots,I (ob a i).count,iv (AA (iv i)*8+6), .bool (ob a i).purple]) (fun _=>[]) (ob a i).field.length (fun _=>True) (by simp only [List.take_zero,List.count_nil,ite_self,Nat.add_zero];rfl) rfl trivial (fun R2 j hj _ hR2=> ?_)
   have hc:((ob a i).field.take j).count id≤j:=Nat.le_trans List.count_le_length (by simp;omega)
   simp only [AG,AM,AK,AP,AI,AD,AE,AR,AQ,AO,AL,AJ,AN,AH,BC,BF,BJ,BG,BH,BI,BE,A6,A7,A1,A4,A5,AZ]
   refine AX (AV (fun hlt2=> ?_) fun hge2=> ?_)
   ·have hlt2:j<(ob a i).field.length:=by omega
    replace hR2:=hR2 hlt2 trivial
    rw [VY hlt2] at hR2
    rw [AY (AA (iv i)*8+6),GZ hlt,AD]
    refine BP (AT hlt2 (L4 hlt hlt2 (BO (BO ?_))))
    by_cases hv:(ob a i).live=true
    ·simp only [if_pos hv] at hR2 ⊢
     refine O8 hv (BM (j8 hv rfl (AV (fun he=> ?_) fun he=> ?_)))
     ·rw [if_pos he] at hR2
      exact D4 ⟨by omega,by omega⟩ (BA (by omega) hR2)
     ·rw [if_neg he] at hR2
      exact BA (by omega) hR2
    ·have hv:(ob a i).live=false:=by simpa using hv
     simp only [hv,Bool.false_eq_true,if_false] at hR2 ⊢
     exact K8 (TU rfl (BU (BA (by omega) hR2)))
   ·have:j=(ob a i).field.length:=by omega
    subst this
    rw [List.take_length] at hc ⊢
    exact BA (by omega) hR
  ·have:i=a.length:=by omega
   subst this
   rw [List.take_length];exact h
 ·rw [inE,if_neg (by rintro ⟨h1,h2⟩;simp_all)] at h;exact h
theorem O4 {a:List AU} {b c d:List T} {s:Int} {K:J2} (hs:F64 s) (hl:(a.length:Int)≤1048576) (hf: ∀o∈a,(o.field.length:Int)≤1048576) (h:K [I (inE a s)] []):cl2 ⟨Try.prog,w0⟩ 88 EC.sg [I s] [tR tO a,b,c,d] K:=by
 obtain ⟨s1,s2⟩:=hs
 refine EC.cl2 ?_
 unfold EC.txt
 simp only [AG,AM,AK,AP,AI,AD,AE,AR,AQ,AO,AL,AJ,AN,AH,BC,BF,BJ,BG,BH,BI,BE,A6,A7,A1,A4,A5,AZ]
 repeat' (first | refine DX ?_ | refine I6 ?_ | refine BO ?_ | refine KG (by first | with_reducible assumption | omega) ?_ | refine F5 (by first | with_reducible assumption | omega) ?_ | refine C4 (by first | with_reducible assumption | omega) rfl ?_ | refine C5 (by first | with_reducible assumption | omega) rfl ?_ | refine BX ?_ | refine DI ?_ | refine H2 ⟨by omega,by omega⟩ ?_ | refine PB (by omega) (by omega) ?_ | refine HX (by omega) (by decide) rfl ?_ | refine KB (by omega) rfl ?_ | refine JF (fun _=> ?_) (fun _=> ?_) | refine SW (fun _=> ?_) (fun _=> ?_) | refine B1 ?_ | simp only [AG,AM,AK,AP,AI,AD,AE,AR,AQ,AO,AL,AJ,AN,AH,BC,BF,BJ,BG,BH,BI,BE,A6,A7,A1,A4,A5,AZ])
 ·rw [inE,if_neg (by simp_all)] at h;exact h
 ·rename_i hin hlv
  have hin:0≤s∧s≤(a.length:Int)-1:=Decidable.not_not.1 hin
  rw [inE,if_pos ⟨hin,by simpa using hlv⟩] at h
  generalize CH s (ob a s.toNat).gen=id at h ⊢
  refine BB (fun i=>[I (CE (a.take i) id),I id,iv i]) (fun _=>[]) a.length (fun _=>True) rfl rfl trivial (fun R i hi _ hR=> ?_)
  have he:=MY (l:=a.take i) (id:=id) (b:=1048576) fun o ho=>by have:=hf o (List.mem_of_mem_take ho);omega
  have hln:(a.take i).length≤a.length:=by simp;omega
  have hmul:(a.take i).length*1048576≤1048576*1048576:=Nat.mul_le_mul_right _ (by omega)
  have hfo:=Z5 hf i
  simp only [AG,AM,AK,AP,AI,AD,AE,AR,AQ,AO,AL,AJ,AN,AH,BC,BF,BJ,BG,BH,BI,BE,A6,A7,A1,A4,A5,AZ]
  refine AX (AV (fun hlt=> ?_) fun hge=> ?_)
  ·have hlt:i<a.length:=by omega
   replace hR:=hR hlt trivial
   rw [VS hlt,NA] at hR
   refine BB (fun j=>[I ((CE (a.take i) id+(if (ob a i).live=true then ((ob a i).field.take j).count id else 0):Nat):Int),I id,iv i,iv j]) (fun _=>[]) (ob a i).field.length (fun _=>True) (by simp only [List.take_zero,List.count_nil,ite_self,Nat.add_zero];rfl) rfl trivial (fun R2 j hj _ hR2=> ?_)
   have hc:((ob a i).field.take j).count id≤j:=Nat.le_trans List.count_le_length (by simp;omega)
   refine AT hlt (aF hlt ?_)
   rw [GZ hlt,AD]
   by_cases hv:(ob a i).live=true
   ·simp only [if_pos hv] at hR hR2 ⊢
    refine AX (BO (BO (BO (I1 (fun hlt2=> ?_) fun hge2=> ?_))))
    ·have hlt2':j<(ob a i).field.length:=by
      have:(j:Int)<((ob a i).field.length:Int):=hlt2
      omega
     replace hR2:=hR2 hlt2' trivial
     rw [VY hlt2'] at hR2
     refine AT hlt (BO (H4 hlt2 (KB hlt rfl (C4 hlt2 rfl (gC hv (BP (AT hlt (aF hlt ?_))))))))
     rw [GZ hlt,AD]
     refine AT hlt2' (L4 hlt hlt2' (BM (AV (fun he=> ?_) fun he=> ?_)))
     ·rw [if_pos he] at hR2
      exact D4 ⟨by omega,by omega⟩ (BA (by omega) hR2)
     ·rw [if_neg he] at hR2
      exact BA (by omega) hR2
    ·have:j=(ob a i).field.length:=by
      have: ¬(j:Int)<((ob a i).field.length:Int):=hge2
      omega
     subst this
     rw [List.take_length] at hc ⊢
     exact BO (ML hge2 (C5 hge2 rfl (BU (BA (by omega) hR))))
   ·have hv:(ob a i).live=false:=by simpa using hv
    simp only [hv,Bool.false_eq_true,if_false] at hR hR2 ⊢
    refine AX (BO (BO (BO (I1 (fun hlt2=> ?_) fun hge2=> ?_))))
    ·exact AT hlt (BO (H4 hlt2 (KB hlt (v:= .bool false) (by rw [←hv];rfl) (C4 hlt2 rfl (BU (BA (by omega) hR))))))
    ·exact BO (ML hge2 (C5 hge2 rfl (BU (BA (by omega) hR))))
  ·have:i=a.length:=by omega
   subst this
   rw [List.take_length];exact h
 ·rw [inE,if_neg (by rintro ⟨h1,h2⟩;simp_all)] at h;exact h
theorem YH {l:List Int} {i:Nat} {x:Int} (hi:i<l.length) (h:x∉l.take i) (hn:gI l i≠x):x∉l.take (i+1):=by
 rw [List.take_succ_eq_append_getElem hi,EN hi]
 simp only [List.mem_append,List.mem_singleton,not_or]
 exact ⟨h,fun he=>hn he.symm⟩
theorem DT {l:List Int} {i:Nat} (h:i<l.length):gI l i∈l:=by rw [←EN h];exact List.getElem_mem h
theorem QR {l:List Int} {x:Int} {K:J2} (hl:(l.length:Int)<2^62) (h:K [.bool (decide (x∈l))] []):cl2 ⟨Try.prog,w0⟩ 91 FB.sg [I x] [tI l] K:=by
 refine FB.cl2 ?_
 unfold FB.txt
 simp only [AG,AM,AK,AP,AI,AD,AE,AR,AQ,AO,AL,AJ,AN,AH,BC,BF,BJ,BG,BH,BI,BE,A6,A7,A1,A4,A5,AZ]
 refine BB (fun i=>[I x,iv l.length,iv i]) (fun _=>[]) l.length (fun i=>x∉l.take i) rfl rfl (by simp) (fun R i hi hP hR=> ?_)
 refine AX (AV (fun hlt=> ?_) fun hge=> ?_)
 ·have hlt:i<l.length:=by omega
  refine AT hlt (ldI hlt (BM (AV (fun he=> ?_) fun he=> ?_)))
  ·rw [decide_eq_true (he ▸ DT hlt)] at h;exact h
  ·exact BA (by omega) (hR hlt (YH hlt hP he))
 ·have:i=l.length:=by omega
  subst this
  rw [List.take_length] at hP
  rw [decide_eq_false hP] at h;exact h
theorem N5 {l:List Int} {x:Int} {K:J2} (hl:(l.length:Int)<2^62) (h:K [.bool (decide (x∈l))] []):cl2 ⟨Try.prog,w0⟩ 89 FK.sg [I x] [tI l] K:=by
 refine FK.cl2 ?_
 unfold FK.txt
 simp only [AG,AM,AK,AP,AI,AD,AE,AR,AQ,AO,AL,AJ,AN,AH,BC,BF,BJ,BG,BH,BI,BE,A6,A7,A1,A4,A5,AZ]
 refine BB (fun i=>[I x,iv i]) (fun _=>[]) l.length (fun i=>x∉l.take i) rfl rfl (by simp) (fun R i hi hP hR=> ?_)
 refine AX (AV (fun hlt=> ?_) fun hge=> ?_)
 ·have hlt:i<l.length:=by omega
  refine AT hlt (ldI hlt (BM (AV (fun he=> ?_) fun he=> ?_)))
  ·rw [decide_eq_true (he ▸ DT hlt)] at h;exact h
  ·exact BA (by omega) (hR hlt (YH hlt hP he))
 ·have:i=l.length:=by omega
  subst this
  rw [List.take_length] at hP
  rw [decide_eq_false hP] at h;exact h
attribute [irreducible] inE CE
end Go.Proofs.Ytklmcfpgdfibnaa.P
namespace Go.Proofs.Ytklmcfpgdfibnaa.P
open Go Go.Proofs.Ytklmcfpgdfibnaa Go.Proofs.Ytklmcfpgdfibnaa.Eng
set_option linter.unusedVariables false
def inB (n lo hi:Int):Bool:=decide (n≥lo)&&decide (n≤hi)
def PH (n:Int):Bool:=inB n (-1000000000) 1000000000
def sD (a b c d:Int) (s:ByteArray):Bool:=(((PH a&&PH b)&&PH c)&&PH d)&&decide ((s.size:Int)≤8)
def u7 (c v:Int) (l:List Int):Bool:=(inB c 0 6&&PH v&&decide (l.length≤8))&&l.all PH
end Go.Proofs.Ytklmcfpgdfibnaa.P
namespace Go.Proofs.Ytklmcfpgdfibnaa.P
open Go Go.Proofs.Ytklmcfpgdfibnaa Go.Proofs.Ytklmcfpgdfibnaa.Eng
set_option linter.unusedVariables false
def MN (l:List Nat):ByteArray:=l.foldl (fun b n=>b.push (UInt8.ofNat n)) ByteArray.empty
theorem bF (l:List Nat):(MN l).size=l.length:=by
 have: ∀(l:List Nat) (b:ByteArray),(l.foldl (fun b n=>b.push (UInt8.ofNat n)) b).size=b.size+l.length:=by
  intro l
  induction l with
  | nil=>intro b;rfl
  | cons a l ih=>intro b;rw [List.foldl_cons,ih,ByteArray.size_push,List.length_cons];omega
 rw [MN,this];simp
def vd:Nat→Nat→List Nat
 | 0,n=>[n]
 | k+1,n=>if n≥128 then (128+n % 128)::vd k (n/128) else [n]
theorem m7: ∀k n,(vd k n).length≤k+1
 | 0,n=>by simp [vd]
 | k+1,n=>by
   unfold vd;split
   ·have:=m7 k (n/128);simp only [List.length_cons];omega
   ·simp
def V (n:Int):ByteArray:=if inB n 0 562949953421311 then MN (vd 6 n.toNat) else ⟨#[]⟩
theorem QX (n:Int):(V n).size≤7:=by
 unfold V;split
 ·rw [bF];exact m7 6 _
 ·exact Nat.zero_le _
attribute [irreducible] V
end Go.Proofs.Ytklmcfpgdfibnaa.P
namespace Go.Proofs.Ytklmcfpgdfibnaa.P
open Go Go.Proofs.Ytklmcfpgdfibnaa Go.Proofs.Ytklmcfpgdfibnaa.Eng
set_option linter.unusedVariables false
def zg (n:Int):Int:=if inB n (-100000000000000) 100000000000000 then (if n<0 then -2*n-1 else 2*n) else -1
theorem iH {n lo hi:Int}:inB n lo hi=true↔lo≤n∧n≤hi:=by simp [inB]
def SI (n:Int):ByteArray:=V (zg n)
def ST (s:ByteArray):ByteArray:=if (s.size:Int)>8 then ⟨#[]⟩ else V s.size++s
theorem oP (s:ByteArray):(ST s).size≤15:=by
 unfold ST;split
 ·exact Nat.zero_le _
 ·have:=QX s.size
  rw [ByteArray.size_append];omega
theorem kE {a b:ByteArray} {p q:Prop} (h1:a=b→p) (h2:a≠b→q):AW (.bool (a.toList==b.toList)) p q:=
 SW (fun h=>h1 (eX (by simpa using h))) (fun h=>h2 (by rintro rfl;simp at h))
instance :LawfulBEq ByteArray where
 eq_of_beq {a b} h:=by
  cases a;cases b
  have h:_==_:=h
  first | exact congrArg _ (eq_of_beq h) | (simp [BEq.beq,instBEqByteArray.beq] at h;simpa using h) | (simp_all)
 rfl {a}:=by
  cases a
  first | exact beq_self_eq_true (α:=Array UInt8) _ | (show ByteArray.beq _ _=true;unfold ByteArray.beq;simp) | (simp [BEq.beq,ByteArray.beq])
def at_ (l:List ByteArray) (s:ByteArray):Int:=if s∈l then (l.idxOf s:Int) else -1
theorem dM {l:List ByteArray} {s:ByteArray} {i:Nat} (hi:i<l.length) (h1:s∉l.take i) (h2:l[i]≠s):s∉l.take (i+1):=by
 rw [List.take_succ_eq_append_getElem hi]
 simp only [List.mem_append,List.mem_singleton,not_or]
 exact ⟨h1,fun h=>h2 h.symm⟩
theorem pA {l:List ByteArray} {s:ByteArray} {i:Nat} (hi:i<l.length) (h1:s∉l.take i) (h2:l[i]=s):at_ l s=i:=by
 have hm:s∈l:=h2 ▸ List.getElem_mem hi
 rw [at_,if_pos hm]
 have e:l=l.take i++l[i]::l.drop (i+1):=by rw [←List.drop_eq_getElem_cons hi,List.take_append_drop]
 have hx:l.idxOf s=i:=by
  rw [e,List.idxOf_append,if_neg h1,h2,List.idxOf_cons_self]
  simp;omega
 rw [hx]
theorem QF {w0:World} {s:ByteArray} {l:List ByteArray} {K:J2} (hl:(l.length:Int)<2^62) (h:K [I (at_ l s)] []):cl2 ⟨Try.prog,w0⟩ 162 FE.sg [.string s] [tS l] K:=by
 refine FE.cl2 ?_
 unfold FE.txt
 simp only [AE]
 refine BB (fun i=>[.string s,iv l.length,iv i]) (fun _=>[]) l.length (fun i=>s∉l.take i) rfl rfl (by simp) (fun R i hi hP hR=> ?_)
 refine qB (AV (fun hlt=> ?_) fun hge=> ?_)
 ·refine AT hlt (lD hlt (cJ (kE (fun he=> ?_) fun hne=> ?_)))
  ·rw [pA hlt hP he] at h;exact h
  ·exact BA (by omega) (hR hlt (dM hlt hP hne))
 ·have:i=l.length:=by omega
  subst this
  rw [List.take_length] at hP
  rw [at_,if_neg hP] at h;exact h
theorem VD {w0:World} {s:ByteArray} {l:List ByteArray} {K:J2} (hl:(l.length:Int)<2^62) (h:K [.bool (decide (s∈l))] []):cl2 ⟨Try.prog,w0⟩ 159 GM.sg [.string s] [tS l] K:=by
 refine GM.cl2 (QF hl (K3 ?_))
 have:decide (at_ l s≥0)=decide (s∈l):=by
  by_cases hm:s∈l <;> simp [at_,hm]
 rw [this];exact h
end Go.Proofs.Ytklmcfpgdfibnaa.P
