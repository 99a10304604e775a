/- A part of the proof. -/
import Derived.Test.YtnhicpkhkaihoaaCkHpA
import Derived.Test.YtnhicpkhkaihoaaCkLawTyNode
import Derived.Test.YtnhicpkhkaihoaaCkRowT
import Derived.Test.YtnhicpkhkaihoaaCkTxtB
namespace Go.Proofs.Ytnhicpkhkaihoaa.P
open Go Go.Proofs.Ytnhicpkhkaihoaa Go.Proofs.Ytnhicpkhkaihoaa.Eng
set_option maxHeartbeats 4000000
set_option linter.unusedVariables false
set_option linter.unusedSimpArgs false
attribute [local irreducible] prP gP gE gF AU ixW ldc ldg ldl stc stg scW mkW apW BD cl2 BW FR DK
variable {w0:World}
structure Gr where
 nodes:List Nd
 B5:List Wk
 sites:List ByteArray
def wC (o:AX):Nd:=⟨o.live,o.gen,o.site,o.holds,o.roots,o.field⟩
def u5 (h:Hp):Gr:=⟨h.BB.map wC,h.B5,h.sites⟩
theorem HO {l:List Int} {K:J2} (hl:(l.length:Int)≤2^40) (h:K [] [tI l]):cl2 ⟨Try.prog,w0⟩ 145 CE.sg [] [tI l] K:=by
 refine CE.cl2 ?_
 unfold CE.txt
 simp only [AI,AM,AP,AR,AT,AD,AH,AL,AK,AO,AQ,AJ,AS,AN,BE,BJ,BH,BK,BI,BG,BF,A1,AZ,A5,A7,A6,A4]
 refine FM (MD l) (by omega) ?_
 rw [List.nil_append];exact h
theorem S4 {l:List ByteArray} {K:J2} (hl:(l.length:Int)≤2^40) (h:K [] [tS l]):cl2 ⟨Try.prog,w0⟩ 144 D9.sg [] [tS l] K:=by
 refine D9.cl2 ?_
 unfold D9.txt
 simp only [AI,AM,AP,AR,AT,AD,AH,AL,AK,AO,AQ,AJ,AS,AN,BE,BJ,BH,BK,BI,BG,BF,A1,AZ,A5,A7,A6,A4]
 refine FM (aA l) (by omega) ?_
 rw [List.nil_append];exact h
theorem rI {l:List AX} {P:AX→Prop} (h: ∀o∈l,P o) {i:Nat} (hi:i<l.length):P (ob l i):=by rw [←DU hi];exact h _ (List.getElem_mem hi)
def sW (g:Gr):Int:=szL fH g.nodes+szL HD g.B5+g.sites.length
structure TW (g:Gr):Prop where
 nl:(g.nodes.length:Int)≤1048576
 nf: ∀o∈g.nodes,(o.field.length:Int)≤1048576
 wl:(g.B5.length:Int)≤1048576
 sl:(g.sites.length:Int)≤1048576
theorem TW.of {h:Hp} (hf:Fits h):TW (u5 h):=by
 refine ⟨?_, ?_,hf.wl,hf.sl⟩
 ·simp only [u5,List.length_map];exact hf.ol
 ·intro o ho
  obtain ⟨x,hx,rfl⟩:=List.mem_map.1 ho
  exact hf.of x hx
theorem TW.nodes {g:Gr} (hf:TW g):0≤szL fH g.nodes∧szL fH g.nodes≤2^41:=by
 refine ⟨HH mD _, ?_⟩
 have h1:=RI (sz:=fH) (b:=1048581) (l:=g.nodes) fun o ho=>by have:=hf.nf o ho;unfold fH;omega
 have h2:=hf.nl
 have h3:(g.nodes.length:Int)*1048581≤1048576*1048581:=Int.mul_le_mul_of_nonneg_right h2 (by omega)
 omega
theorem TW.B5 {g:Gr} (hf:TW g):0≤szL HD g.B5∧szL HD g.B5≤2^41:=by
 refine ⟨HH NI _, ?_⟩
 have h1:=RI (sz:=HD) (b:=2) (l:=g.B5) fun o ho=>by unfold HD;omega
 have h2:=hf.wl
 omega
theorem TW.sz {g:Gr} (hf:TW g):0≤sW g∧sW g≤2^43:=by
 have h1:=hf.nodes;have h2:=hf.B5;have h4:=hf.sl
 unfold sW;omega
end Go.Proofs.Ytnhicpkhkaihoaa.P
namespace Go.Proofs.Ytnhicpkhkaihoaa.P
open Go Go.Proofs.Ytnhicpkhkaihoaa Go.Proofs.Ytnhicpkhkaihoaa.Eng
set_option maxHeartbeats 4000000
set_option linter.unusedVariables false
set_option linter.unusedSimpArgs false
attribute [local irreducible] prP gP gE gF AU ixW ldc ldg ldl stc stg scW mkW apW BD cl2 BW FR DK
variable {w0:World}
def NS (id:Int) (o:AX):Nat:=if o.live=true then o.field.count id else 0
def CC (l:List AX) (id:Int):Nat:=(l.map (NS id)).sum
def inE (l:List AX) (s:Int):Int:=if (0≤s∧s≤l.length-1)∧(ob l s.toNat).live=true then CC l (CQ s (ob l s.toNat).gen) else 0
theorem VS {l:List AX} {i:Nat} {id:Int} (hi:i<l.length):CC (l.take (i+1)) id=CC (l.take i) id+NS id (ob l i):=by
 rw [CC,List.take_succ_eq_append_getElem hi,List.map_append,List.sum_append,DU hi];simp [CC]
theorem WS {l:List Int} {j:Nat} {id:Int} (hj:j<l.length):(l.take (j+1)).count id=(l.take j).count id+if gI l j=id then 1 else 0:=by
 rw [List.take_succ_eq_append_getElem hj,List.count_append,FQ hj,List.count_singleton]
 simp
theorem qR (id:Int) (o:AX):NS id o≤o.field.length:=by
 unfold NS;split
 ·exact List.count_le_length
 ·exact Nat.zero_le _
theorem NY {l:List AX} {id:Int} {b:Nat} (h: ∀o∈l,o.field.length≤b):CC l id≤l.length*b:=by
 induction l with
 | nil=>simp [CC]
 | cons o l ih=>
   have h1:=ih fun x hx=>h x (by simp [hx])
   have h2:=qR id o
   have h3:=h o (by simp)
   simp only [CC,List.map_cons,List.sum_cons,List.length_cons,Nat.add_mul,Nat.one_mul] at h1 ⊢
   omega
theorem gV {l:List AX} (hf: ∀o∈l,(o.field.length:Int)≤1048576) (i:Nat):((ob l i).field.length:Int)≤1048576:=by
 by_cases hi:i<l.length
 ·rw [←DU hi];exact hf _ (List.getElem_mem hi)
 ·unfold ob;rw [List.getD_eq_getElem?_getD,List.getElem?_eq_none (by omega)];simp
theorem WY {a:List AX} {b c d:List T} {s:Int} {K:J2} (hs:F64 s) (hl:(a.length:Int)≤1048576) (hf: ∀o∈a,(o.field.length:Int)≤1048576) (h:K [I (inE a s)] []):cl2 ⟨Try.prog,w0⟩ 223 FT.sg [I s] [tR tO a,b,c,d] K:=by
 obtain ⟨s1,s2⟩:=hs
 refine FT.cl2 ?_
 unfold FT.txt
 simp only [AI,AM,AP,AR,AT,AD,AH,AL,AK,AO,AQ,AJ,AS,AN,BE,BJ,BH,BK,BI,BG,BF,A1,AZ,A5,A7,A6,A4]
 repeat' (first | refine I6 ?_ | refine MI ?_ | refine BZ ?_ | refine OS (by first | with_reducible assumption | omega) ?_ | refine JB (by first | with_reducible assumption | omega) ?_ | refine EF (by first | with_reducible assumption | omega) rfl ?_ | refine E9 (by first | with_reducible assumption | omega) rfl ?_ | refine B4 ?_ | refine DE ?_ | refine IW ⟨by omega,by omega⟩ ?_ | refine TV (by omega) (by omega) ?_ | refine H0 (by omega) (by decide) rfl ?_ | refine K2 (by omega) rfl ?_ | refine MP (fun _=> ?_) (fun _=> ?_) | refine Q3 (fun _=> ?_) (fun _=> ?_) | refine BY ?_ | simp only [AI,AM,AP,AR,AT,AD,AH,AL,AK,AO,AQ,AJ,AS,AN,BE,BJ,BH,BK,BI,BG,BF,A1,AZ,A5,A7,A6,A4])
 ·rw [inE,if_neg (by simp_all)] at h;exact h
 ·rename_i hin hlv
  have hin:0≤s∧s≤(a.length:Int)-1:=Decidable.not_not.1 hin
  rw [inE,if_pos ⟨hin,by simpa using hlv⟩] at h
  generalize CQ s (ob a s.toNat).gen=id at h ⊢
  refine BA (fun i=>[I id,I (CC (a.take i) id),iv a.length,iv i]) (fun _=>[]) a.length (fun _=>True) rfl rfl trivial (fun R i hi _ hR=> ?_)
  have he:=NY (l:=a.take i) (id:=id) (b:=1048576) fun o ho=>by have:=hf o (List.mem_of_mem_take ho);omega
  have hln:(a.take i).length≤a.length:=by simp;omega
  have hmul:(a.take i).length*1048576≤1048576*1048576:=Nat.mul_le_mul_right _ (by omega)
  have hfo:=gV hf i
  simp only [AI,AM,AP,AR,AT,AD,AH,AL,AK,AO,AQ,AJ,AS,AN,BE,BJ,BH,BK,BI,BG,BF,A1,AZ,A5,A7,A6,A4]
  refine AV (AW (fun hlt=> ?_) fun hge=> ?_)
  ·have hlt:i<a.length:=by omega
   replace hR:=hR hlt trivial
   rw [VS hlt,NS] at hR
   refine AG hlt (OZ hlt ?_)
   rw [HU hlt,AD]
   refine BA (fun j=>[I id,I ((CC (a.take i) id+(if (ob a i).live=true then ((ob a i).field.take j).count id else 0):Nat):Int),iv a.length,iv i,iv (AA (iv i)*8+6),iv (ob a i).field.length,iv j, .bool (ob a i).live,I (ob a i).gen,I (ob a i).site,I (ob a i).holds,I (ob a i).roots,I (ob a i).count,iv (AA (iv i)*8+6), .bool (ob a i).purple]) (fun _=>[]) (ob a i).field.length (fun _=>True) (by simp only [List.take_zero,List.count_nil,ite_self,Nat.add_zero];rfl) rfl trivial (fun R2 j hj _ hR2=> ?_)
   have hc:((ob a i).field.take j).count id≤j:=Nat.le_trans List.count_le_length (by simp;omega)
   simp only [AI,AM,AP,AR,AT,AD,AH,AL,AK,AO,AQ,AJ,AS,AN,BE,BJ,BH,BK,BI,BG,BF,A1,AZ,A5,A7,A6,A4]
   refine AV (AW (fun hlt2=> ?_) fun hge2=> ?_)
   ·have hlt2:j<(ob a i).field.length:=by omega
    replace hR2:=hR2 hlt2 trivial
    rw [WS hlt2] at hR2
    rw [AY (AA (iv i)*8+6),HU hlt,AD]
    refine BU (AG hlt2 (NB hlt hlt2 (BZ (BZ ?_))))
    by_cases hv:(ob a i).live=true
    ·simp only [if_pos hv] at hR2 ⊢
     refine SD hv (BT (sN hv rfl (AW (fun he=> ?_) fun he=> ?_)))
     ·rw [if_pos he] at hR2
      exact C1 ⟨by omega,by omega⟩ (A8 (by omega) hR2)
     ·rw [if_neg he] at hR2
      exact A8 (by omega) hR2
    ·have hv:(ob a i).live=false:=by simpa using hv
     simp only [hv,Bool.false_eq_true,if_false] at hR2 ⊢
     exact OM (lJ rfl (BN (A8 (by omega) hR2)))
   ·have:j=(ob a i).field.length:=by omega
    subst this
    rw [List.take_length] at hc ⊢
    exact A8 (by omega) hR
  ·have:i=a.length:=by omega
   subst this
   rw [List.take_length];exact h
 ·rw [inE,if_neg (by rintro ⟨h1,h2⟩;simp_all)] at h;exact h
theorem PT {a:List AX} {b c d:List T} {s:Int} {K:J2} (hs:F64 s) (hl:(a.length:Int)≤1048576) (hf: ∀o∈a,(o.field.length:Int)≤1048576) (h:K [I (inE a s)] []):cl2 ⟨Try.prog,w0⟩ 189 D7.sg [I s] [tR tO a,b,c,d] K:=by
 obtain ⟨s1,s2⟩:=hs
 refine D7.cl2 ?_
 unfold D7.txt
 simp only [AI,AM,AP,AR,AT,AD,AH,AL,AK,AO,AQ,AJ,AS,AN,BE,BJ,BH,BK,BI,BG,BF,A1,AZ,A5,A7,A6,A4]
 repeat' (first | refine DW ?_ | refine KF ?_ | refine BZ ?_ | refine OS (by first | with_reducible assumption | omega) ?_ | refine JB (by first | with_reducible assumption | omega) ?_ | refine EF (by first | with_reducible assumption | omega) rfl ?_ | refine E9 (by first | with_reducible assumption | omega) rfl ?_ | refine B4 ?_ | refine DE ?_ | refine IW ⟨by omega,by omega⟩ ?_ | refine TV (by omega) (by omega) ?_ | refine H0 (by omega) (by decide) rfl ?_ | refine K2 (by omega) rfl ?_ | refine MP (fun _=> ?_) (fun _=> ?_) | refine Q3 (fun _=> ?_) (fun _=> ?_) | refine BY ?_ | simp only [AI,AM,AP,AR,AT,AD,AH,AL,AK,AO,AQ,AJ,AS,AN,BE,BJ,BH,BK,BI,BG,BF,A1,AZ,A5,A7,A6,A4])
 ·rw [inE,if_neg (by simp_all)] at h;exact h
 ·rename_i hin hlv
  have hin:0≤s∧s≤(a.length:Int)-1:=Decidable.not_not.1 hin
  rw [inE,if_pos ⟨hin,by simpa using hlv⟩] at h
  generalize CQ s (ob a s.toNat).gen=id at h ⊢
  refine BA (fun i=>[I (CC (a.take i) id),I id,iv i]) (fun _=>[]) a.length (fun _=>True) rfl rfl trivial (fun R i hi _ hR=> ?_)
  have he:=NY (l:=a.take i) (id:=id) (b:=1048576) fun o ho=>by have:=hf o (List.mem_of_mem_take ho);omega
  have hln:(a.take i).length≤a.length:=by simp;omega
  have hmul:(a.take i).length*1048576≤1048576*1048576:=Nat.mul_le_mul_right _ (by omega)
  have hfo:=gV hf i
  simp only [AI,AM,AP,AR,AT,AD,AH,AL,AK,AO,AQ,AJ,AS,AN,BE,BJ,BH,BK,BI,BG,BF,A1,AZ,A5,A7,A6,A4]
  refine AV (AW (fun hlt=> ?_) fun hge=> ?_)
  ·have hlt:i<a.length:=by omega
   replace hR:=hR hlt trivial
   rw [VS hlt,NS] at hR
   refine BA (fun j=>[I ((CC (a.take i) id+(if (ob a i).live=true then ((ob a i).field.take j).count id else 0):Nat):Int),I id,iv i,iv j]) (fun _=>[]) (ob a i).field.length (fun _=>True) (by simp only [List.take_zero,List.count_nil,ite_self,Nat.add_zero];rfl) rfl trivial (fun R2 j hj _ hR2=> ?_)
   have hc:((ob a i).field.take j).count id≤j:=Nat.le_trans List.count_le_length (by simp;omega)
   refine AG hlt (ZW hlt ?_)
   rw [HU hlt,AD]
   by_cases hv:(ob a i).live=true
   ·simp only [if_pos hv] at hR hR2 ⊢
    refine AV (BZ (BZ (BZ (LY (fun hlt2=> ?_) fun hge2=> ?_))))
    ·have hlt2':j<(ob a i).field.length:=by
      have:(j:Int)<((ob a i).field.length:Int):=hlt2
      omega
     replace hR2:=hR2 hlt2' trivial
     rw [WS hlt2'] at hR2
     refine AG hlt (BZ (I5 hlt2 (K2 hlt rfl (EF hlt2 rfl (gX hv (BU (AG hlt (ZW hlt ?_))))))))
     rw [HU hlt,AD]
     refine AG hlt2' (NB hlt hlt2' (BT (AW (fun he=> ?_) fun he=> ?_)))
     ·rw [if_pos he] at hR2
      exact C1 ⟨by omega,by omega⟩ (A8 (by omega) hR2)
     ·rw [if_neg he] at hR2
      exact A8 (by omega) hR2
    ·have:j=(ob a i).field.length:=by
      have: ¬(j:Int)<((ob a i).field.length:Int):=hge2
      omega
     subst this
     rw [List.take_length] at hc ⊢
     exact BZ (OO hge2 (E9 hge2 rfl (BN (A8 (by omega) hR))))
   ·have hv:(ob a i).live=false:=by simpa using hv
    simp only [hv,Bool.false_eq_true,if_false] at hR hR2 ⊢
    refine AV (BZ (BZ (BZ (LY (fun hlt2=> ?_) fun hge2=> ?_))))
    ·exact AG hlt (BZ (I5 hlt2 (K2 hlt (v:= .bool false) (by rw [←hv];rfl) (EF hlt2 rfl (BN (A8 (by omega) hR))))))
    ·exact BZ (OO hge2 (E9 hge2 rfl (BN (A8 (by omega) hR))))
  ·have:i=a.length:=by omega
   subst this
   rw [List.take_length];exact h
 ·rw [inE,if_neg (by rintro ⟨h1,h2⟩;simp_all)] at h;exact h
theorem kN {l:List Int} {i:Nat} {x:Int} (hi:i<l.length) (h:x∉l.take i) (hn:gI l i≠x):x∉l.take (i+1):=by
 rw [List.take_succ_eq_append_getElem hi,FQ hi]
 simp only [List.mem_append,List.mem_singleton,not_or]
 exact ⟨h,fun he=>hn he.symm⟩
theorem EG {l:List Int} {i:Nat} (h:i<l.length):gI l i∈l:=by rw [←FQ h];exact List.getElem_mem h
theorem OG {l:List Int} {x:Int} {K:J2} (hl:(l.length:Int)<2^62) (h:K [.bool (decide (x∈l))] []):cl2 ⟨Try.prog,w0⟩ 190 FP.sg [I x] [tI l] K:=by
 refine FP.cl2 ?_
 unfold FP.txt
 simp only [AI,AM,AP,AR,AT,AD,AH,AL,AK,AO,AQ,AJ,AS,AN,BE,BJ,BH,BK,BI,BG,BF,A1,AZ,A5,A7,A6,A4]
 refine BA (fun i=>[I x,iv i]) (fun _=>[]) l.length (fun i=>x∉l.take i) rfl rfl (by simp) (fun R i hi hP hR=> ?_)
 refine AV (AW (fun hlt=> ?_) fun hge=> ?_)
 ·have hlt:i<l.length:=by omega
  refine AG hlt (ldI hlt (BT (AW (fun he=> ?_) fun he=> ?_)))
  ·rw [decide_eq_true (he ▸ EG hlt)] at h;exact h
  ·exact A8 (by omega) (hR hlt (kN hlt hP he))
 ·have:i=l.length:=by omega
  subst this
  rw [List.take_length] at hP
  rw [decide_eq_false hP] at h;exact h
attribute [irreducible] inE CC
end Go.Proofs.Ytnhicpkhkaihoaa.P
namespace Go.Proofs.Ytnhicpkhkaihoaa.P
open Go Go.Proofs.Ytnhicpkhkaihoaa Go.Proofs.Ytnhicpkhkaihoaa.Eng
set_option linter.unusedVariables false
def inB (n lo hi:Int):Bool:=decide (n≥lo)&&decide (n≤hi)
def PC (n:Int):Bool:=inB n (-1000000000) 1000000000
def sP (a b c d:Int) (s:ByteArray):Bool:=(((PC a&&PC b)&&PC c)&&PC d)&&decide ((s.size:Int)≤8)
def vD (c v:Int) (l:List Int):Bool:=(inB c 0 6&&PC v&&decide (l.length≤8))&&l.all PC
end Go.Proofs.Ytnhicpkhkaihoaa.P
namespace Go.Proofs.Ytnhicpkhkaihoaa.P
open Go Go.Proofs.Ytnhicpkhkaihoaa Go.Proofs.Ytnhicpkhkaihoaa.Eng
set_option linter.unusedVariables false
def MW (l:List Nat):ByteArray:=l.foldl (fun b n=>b.push (UInt8.ofNat n)) ByteArray.empty
theorem bS (l:List Nat):(MW l).size=l.length:=by
 have: ∀(l:List Nat) (b:ByteArray),(l.foldl (fun b n=>b.push (UInt8.ofNat n)) b).size=b.size+l.length:=by
  intro l
  induction l with
  | nil=>intro b;rfl
  | cons a l ih=>intro b;rw [List.foldl_cons,ih,ByteArray.size_push,List.length_cons];omega
 rw [MW,this];simp
def vd:Nat→Nat→List Nat
 | 0,n=>[n]
 | k+1,n=>if n≥128 then (128+n % 128)::vd k (n/128) else [n]
theorem nF: ∀k n,(vd k n).length≤k+1
 | 0,n=>by simp [vd]
 | k+1,n=>by
   unfold vd;split
   ·have:=nF k (n/128);simp only [List.length_cons];omega
   ·simp
def V (n:Int):ByteArray:=if inB n 0 562949953421311 then MW (vd 6 n.toNat) else ⟨#[]⟩
theorem Q2 (n:Int):(V n).size≤7:=by
 unfold V;split
 ·rw [bS];exact nF 6 _
 ·exact Nat.zero_le _
attribute [irreducible] V
end Go.Proofs.Ytnhicpkhkaihoaa.P
namespace Go.Proofs.Ytnhicpkhkaihoaa.P
open Go Go.Proofs.Ytnhicpkhkaihoaa Go.Proofs.Ytnhicpkhkaihoaa.Eng
set_option linter.unusedVariables false
def zg (n:Int):Int:=if inB n (-100000000000000) 100000000000000 then (if n<0 then -2*n-1 else 2*n) else -1
theorem iQ {n lo hi:Int}:inB n lo hi=true↔lo≤n∧n≤hi:=by simp [inB]
def SI (n:Int):ByteArray:=V (zg n)
def ST (s:ByteArray):ByteArray:=if (s.size:Int)>8 then ⟨#[]⟩ else V s.size++s
theorem qU (s:ByteArray):(ST s).size≤15:=by
 unfold ST;split
 ·exact Nat.zero_le _
 ·have:=Q2 s.size
  rw [ByteArray.size_append];omega
theorem mB {a b:ByteArray} {p q:Prop} (h1:a=b→p) (h2:a≠b→q):AU (.bool (a.toList==b.toList)) p q:=
 Q3 (fun h=>h1 (bF (by simpa using h))) (fun h=>h2 (by rintro rfl;simp at h))
instance :LawfulBEq ByteArray where
 eq_of_beq {a b} h:=by
  cases a;cases b
  have h:_==_:=h
  first | exact congrArg _ (eq_of_beq h) | (simp [BEq.beq,instBEqByteArray.beq] at h;simpa using h) | (simp_all)
 rfl {a}:=by
  cases a
  first | exact beq_self_eq_true (α:=Array UInt8) _ | (show ByteArray.beq _ _=true;unfold ByteArray.beq;simp) | (simp [BEq.beq,ByteArray.beq])
def at_ (l:List ByteArray) (s:ByteArray):Int:=if s∈l then (l.idxOf s:Int) else -1
theorem fZ {l:List ByteArray} {s:ByteArray} {i:Nat} (hi:i<l.length) (h1:s∉l.take i) (h2:l[i]≠s):s∉l.take (i+1):=by
 rw [List.take_succ_eq_append_getElem hi]
 simp only [List.mem_append,List.mem_singleton,not_or]
 exact ⟨h1,fun h=>h2 h.symm⟩
theorem pA {l:List ByteArray} {s:ByteArray} {i:Nat} (hi:i<l.length) (h1:s∉l.take i) (h2:l[i]=s):at_ l s=i:=by
 have hm:s∈l:=h2 ▸ List.getElem_mem hi
 rw [at_,if_pos hm]
 have e:l=l.take i++l[i]::l.drop (i+1):=by rw [←List.drop_eq_getElem_cons hi,List.take_append_drop]
 have hx:l.idxOf s=i:=by
  rw [e,List.idxOf_append,if_neg h1,h2,List.idxOf_cons_self]
  simp;omega
 rw [hx]
theorem XZ {w0:World} {s:ByteArray} {l:List ByteArray} {K:J2} (hl:(l.length:Int)<2^62) (h:K [I (at_ l s)] []):cl2 ⟨Try.prog,w0⟩ 115 GO.sg [.string s] [tS l] K:=by
 refine GO.cl2 ?_
 unfold GO.txt
 simp only [AH]
 refine BA (fun i=>[.string s,iv l.length,iv i]) (fun _=>[]) l.length (fun i=>s∉l.take i) rfl rfl (by simp) (fun R i hi hP hR=> ?_)
 refine OI (AW (fun hlt=> ?_) fun hge=> ?_)
 ·refine AG hlt (V3 hlt (dO (mB (fun he=> ?_) fun hne=> ?_)))
  ·rw [pA hlt hP he] at h;exact h
  ·exact A8 (by omega) (hR hlt (fZ hlt hP hne))
 ·have:i=l.length:=by omega
  subst this
  rw [List.take_length] at hP
  rw [at_,if_neg hP] at h;exact h
end Go.Proofs.Ytnhicpkhkaihoaa.P
