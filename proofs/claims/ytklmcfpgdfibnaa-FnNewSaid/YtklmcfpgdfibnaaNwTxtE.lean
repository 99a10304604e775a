/- A part of the proof. -/
import Derived.Test.YtklmcfpgdfibnaaNwHpA
import Derived.Test.YtklmcfpgdfibnaaNwLawTyNode
import Derived.Test.YtklmcfpgdfibnaaNwRowT
import Derived.Test.YtklmcfpgdfibnaaNwTxtB
namespace Go.Proofs.Ytklmcfpgdfibnaa.P
open Go Go.Proofs.Ytklmcfpgdfibnaa Go.Proofs.Ytklmcfpgdfibnaa.Eng
set_option maxHeartbeats 4000000
set_option linter.unusedVariables false
set_option linter.unusedSimpArgs false
attribute [local irreducible] prP gP gE gF AV ixW ldc ldg ldl stc stg scW mkW apW BL cl2 BS EC CX
variable {w0:World}
structure Gr where
 nodes:List Nd
 CA:List Wk
 sites:List ByteArray
def uM (o:AU):Nd:=⟨o.live,o.gen,o.site,o.holds,o.roots,o.field⟩
def uE (h:Hp):Gr:=⟨h.BB.map uM,h.CA,h.sites⟩
theorem HE {l:List Int} {K:J2} (hl:(l.length:Int)≤2^40) (h:K [] [tI l]):cl2 ⟨Try.prog,w0⟩ 141 CE.sg [] [tI l] K:=by
 refine CE.cl2 ?_
 unfold CE.txt
 simp only [AG,AK,AN,AM,AI,AD,AE,AP,AO,AJ,AQ,AR,AL,AH,BE,BJ,BH,BG,BK,BI,BF,A4,A8,A7,A6,A5,AZ]
 refine EH (LZ l) (by omega) ?_
 rw [List.nil_append];exact h
theorem R8 {l:List ByteArray} {K:J2} (hl:(l.length:Int)≤2^40) (h:K [] [tS l]):cl2 ⟨Try.prog,w0⟩ 142 D4.sg [] [tS l] K:=by
 refine D4.cl2 ?_
 unfold D4.txt
 simp only [AG,AK,AN,AM,AI,AD,AE,AP,AO,AJ,AQ,AR,AL,AH,BE,BJ,BH,BG,BK,BI,BF,A4,A8,A7,A6,A5,AZ]
 refine EH (X4 l) (by omega) ?_
 rw [List.nil_append];exact h
theorem p5 {l:List AU} {P:AU→Prop} (h: ∀o∈l,P o) {i:Nat} (hi:i<l.length):P (ob l i):=by rw [←DH hi];exact h _ (List.getElem_mem hi)
def qO (g:Gr):Int:=szL dH g.nodes+szL TI g.CA+g.sites.length
structure S6 (g:Gr):Prop where
 nl:(g.nodes.length:Int)≤1048576
 nf: ∀o∈g.nodes,(o.field.length:Int)≤1048576
 wl:(g.CA.length:Int)≤1048576
 sl:(g.sites.length:Int)≤1048576
theorem S6.of {h:Hp} (hf:Fits h):S6 (uE h):=by
 refine ⟨?_, ?_,hf.wl,hf.sl⟩
 ·simp only [uE,List.length_map];exact hf.ol
 ·intro o ho
  obtain ⟨x,hx,rfl⟩:=List.mem_map.1 ho
  exact hf.of x hx
theorem S6.nodes {g:Gr} (hf:S6 g):0≤szL dH g.nodes∧szL dH g.nodes≤2^41:=by
 refine ⟨Q4 m3 _, ?_⟩
 have h1:=VZ (sz:=dH) (b:=1048581) (l:=g.nodes) fun o ho=>by have:=hf.nf o ho;unfold dH;omega
 have h2:=hf.nl
 have h3:(g.nodes.length:Int)*1048581≤1048576*1048581:=Int.mul_le_mul_of_nonneg_right h2 (by omega)
 omega
theorem S6.CA {g:Gr} (hf:S6 g):0≤szL TI g.CA∧szL TI g.CA≤2^41:=by
 refine ⟨Q4 bA _, ?_⟩
 have h1:=VZ (sz:=TI) (b:=2) (l:=g.CA) fun o ho=>by unfold TI;omega
 have h2:=hf.wl
 omega
theorem S6.sz {g:Gr} (hf:S6 g):0≤qO g∧qO g≤2^43:=by
 have h1:=hf.nodes;have h2:=hf.CA;have h4:=hf.sl
 unfold qO;omega
end Go.Proofs.Ytklmcfpgdfibnaa.P
namespace Go.Proofs.Ytklmcfpgdfibnaa.P
open Go Go.Proofs.Ytklmcfpgdfibnaa Go.Proofs.Ytklmcfpgdfibnaa.Eng
set_option maxHeartbeats 4000000
set_option linter.unusedVariables false
set_option linter.unusedSimpArgs false
attribute [local irreducible] prP gP gE gF AV ixW ldc ldg ldl stc stg scW mkW apW BL cl2 BS EC CX
variable {w0:World}
def M7 (id:Int) (o:AU):Nat:=if o.live=true then o.field.count id else 0
def CD (l:List AU) (id:Int):Nat:=(l.map (M7 id)).sum
def inE (l:List AU) (s:Int):Int:=if (0≤s∧s≤l.length-1)∧(ob l s.toNat).live=true then CD l (CM s (ob l s.toNat).gen) else 0
theorem U5 {l:List AU} {i:Nat} {id:Int} (hi:i<l.length):CD (l.take (i+1)) id=CD (l.take i) id+M7 id (ob l i):=by
 rw [CD,List.take_succ_eq_append_getElem hi,List.map_append,List.sum_append,DH hi];simp [CD]
theorem V5 {l:List Int} {j:Nat} {id:Int} (hj:j<l.length):(l.take (j+1)).count id=(l.take j).count id+if gI l j=id then 1 else 0:=by
 rw [List.take_succ_eq_append_getElem hj,List.count_append,EE hj,List.count_singleton]
 simp
theorem oH (id:Int) (o:AU):M7 id o≤o.field.length:=by
 unfold M7;split
 ·exact List.count_le_length
 ·exact Nat.zero_le _
theorem M4 {l:List AU} {id:Int} {b:Nat} (h: ∀o∈l,o.field.length≤b):CD l id≤l.length*b:=by
 induction l with
 | nil=>simp [CD]
 | cons o l ih=>
   have h1:=ih fun x hx=>h x (by simp [hx])
   have h2:=oH id o
   have h3:=h o (by simp)
   simp only [CD,List.map_cons,List.sum_cons,List.length_cons,Nat.add_mul,Nat.one_mul] at h1 ⊢
   omega
theorem cR {l:List AU} (hf: ∀o∈l,(o.field.length:Int)≤1048576) (i:Nat):((ob l i).field.length:Int)≤1048576:=by
 by_cases hi:i<l.length
 ·rw [←DH hi];exact hf _ (List.getElem_mem hi)
 ·unfold ob;rw [List.getD_eq_getElem?_getD,List.getElem?_eq_none (by omega)];simp
theorem VT {a:List AU} {b c d:List T} {s:Int} {K:J2} (hs:F64 s) (hl:(a.length:Int)≤1048576) (hf: ∀o∈a,(o.field.length:Int)≤1048576) (h:K [I (inE a s)] []):cl2 ⟨Try.prog,w0⟩ 100 FR.sg [I s] [tR tO a,b,c,d] K:=by
 obtain ⟨s1,s2⟩:=hs
 refine FR.cl2 ?_
 unfold FR.txt
 simp only [AG,AK,AN,AM,AI,AD,AE,AP,AO,AJ,AQ,AR,AL,AH,BE,BJ,BH,BG,BK,BI,BF,A4,A8,A7,A6,A5,AZ]
 repeat' (first | refine IT ?_ | refine L4 ?_ | refine BW ?_ | refine NU (by first | with_reducible assumption | omega) ?_ | refine F8 (by first | with_reducible assumption | omega) ?_ | refine DX (by first | with_reducible assumption | omega) rfl ?_ | refine DW (by first | with_reducible assumption | omega) rfl ?_ | refine B6 ?_ | refine D7 ?_ | refine H8 ⟨by omega,by omega⟩ ?_ | refine O5 (by omega) (by omega) ?_ | refine HJ (by omega) (by decide) rfl ?_ | refine J1 (by omega) rfl ?_ | refine LP (fun _=> ?_) (fun _=> ?_) | refine SU (fun _=> ?_) (fun _=> ?_) | refine CT ?_ | simp only [AG,AK,AN,AM,AI,AD,AE,AP,AO,AJ,AQ,AR,AL,AH,BE,BJ,BH,BG,BK,BI,BF,A4,A8,A7,A6,A5,AZ])
 ·rw [inE,if_neg (by simp_all)] at h;exact h
 ·rename_i hin hlv
  have hin:0≤s∧s≤(a.length:Int)-1:=Decidable.not_not.1 hin
  rw [inE,if_pos ⟨hin,by simpa using hlv⟩] at h
  generalize CM s (ob a s.toNat).gen=id at h ⊢
  refine BD (fun i=>[I id,I (CD (a.take i) id),iv a.length,iv i]) (fun _=>[]) a.length (fun _=>True) rfl rfl trivial (fun R i hi _ hR=> ?_)
  have he:=M4 (l:=a.take i) (id:=id) (b:=1048576) fun o ho=>by have:=hf o (List.mem_of_mem_take ho);omega
  have hln:(a.take i).length≤a.length:=by simp;omega
  have hmul:(a.take i).length*1048576≤1048576*1048576:=Nat.mul_le_mul_right _ (by omega)
  have hfo:=cR hf i
  simp only [AG,AK,AN,AM,AI,AD,AE,AP,AO,AJ,AQ,AR,AL,AH,BE,BJ,BH,BG,BK,BI,BF,A4,A8,A7,A6,A5,AZ]
  refine AX (AW (fun hlt=> ?_) fun hge=> ?_)
  ·have hlt:i<a.length:=by omega
   replace hR:=hR hlt trivial
   rw [U5 hlt,M7] at hR
   refine AS hlt (MB hlt ?_)
   rw [G3 hlt,AD]
   refine BD (fun j=>[I id,I ((CD (a.take i) id+(if (ob a i).live=true then ((ob a i).field.take j).count id else 0):Nat):Int),iv a.length,iv i,iv (AA (iv i)*8+6),iv (ob a i).field.length,iv j, .bool (ob a i).live,I (ob a i).gen,I (ob a i).site,I (ob a i).holds,I (ob a i).roots,I (ob a i).count,iv (AA (iv i)*8+6), .bool (ob a i).purple]) (fun _=>[]) (ob a i).field.length (fun _=>True) (by simp only [List.take_zero,List.count_nil,ite_self,Nat.add_zero];rfl) rfl trivial (fun R2 j hj _ hR2=> ?_)
   have hc:((ob a i).field.take j).count id≤j:=Nat.le_trans List.count_le_length (by simp;omega)
   simp only [AG,AK,AN,AM,AI,AD,AE,AP,AO,AJ,AQ,AR,AL,AH,BE,BJ,BH,BG,BK,BI,BF,A4,A8,A7,A6,A5,AZ]
   refine AX (AW (fun hlt2=> ?_) fun hge2=> ?_)
   ·have hlt2:j<(ob a i).field.length:=by omega
    replace hR2:=hR2 hlt2 trivial
    rw [V5 hlt2] at hR2
    rw [AY (AA (iv i)*8+6),G3 hlt,AD]
    refine BO (AS hlt2 (MJ hlt hlt2 (BW (BW ?_))))
    by_cases hv:(ob a i).live=true
    ·simp only [if_pos hv] at hR2 ⊢
     refine RY hv (BP (qV hv rfl (AW (fun he=> ?_) fun he=> ?_)))
     ·rw [if_pos he] at hR2
      exact ET ⟨by omega,by omega⟩ (BA (by omega) hR2)
     ·rw [if_neg he] at hR2
      exact BA (by omega) hR2
    ·have hv:(ob a i).live=false:=by simpa using hv
     simp only [hv,Bool.false_eq_true,if_false] at hR2 ⊢
     exact NY (cF rfl (BY (BA (by omega) hR2)))
   ·have:j=(ob a i).field.length:=by omega
    subst this
    rw [List.take_length] at hc ⊢
    exact BA (by omega) hR
  ·have:i=a.length:=by omega
   subst this
   rw [List.take_length];exact h
 ·rw [inE,if_neg (by rintro ⟨h1,h2⟩;simp_all)] at h;exact h
theorem N8 {a:List AU} {b c d:List T} {s:Int} {K:J2} (hs:F64 s) (hl:(a.length:Int)≤1048576) (hf: ∀o∈a,(o.field.length:Int)≤1048576) (h:K [I (inE a s)] []):cl2 ⟨Try.prog,w0⟩ 88 DZ.sg [I s] [tR tO a,b,c,d] K:=by
 obtain ⟨s1,s2⟩:=hs
 refine DZ.cl2 ?_
 unfold DZ.txt
 simp only [AG,AK,AN,AM,AI,AD,AE,AP,AO,AJ,AQ,AR,AL,AH,BE,BJ,BH,BG,BK,BI,BF,A4,A8,A7,A6,A5,AZ]
 repeat' (first | refine DS ?_ | refine IW ?_ | refine BW ?_ | refine NU (by first | with_reducible assumption | omega) ?_ | refine F8 (by first | with_reducible assumption | omega) ?_ | refine DX (by first | with_reducible assumption | omega) rfl ?_ | refine DW (by first | with_reducible assumption | omega) rfl ?_ | refine B6 ?_ | refine D7 ?_ | refine H8 ⟨by omega,by omega⟩ ?_ | refine O5 (by omega) (by omega) ?_ | refine HJ (by omega) (by decide) rfl ?_ | refine J1 (by omega) rfl ?_ | refine LP (fun _=> ?_) (fun _=> ?_) | refine SU (fun _=> ?_) (fun _=> ?_) | refine CT ?_ | simp only [AG,AK,AN,AM,AI,AD,AE,AP,AO,AJ,AQ,AR,AL,AH,BE,BJ,BH,BG,BK,BI,BF,A4,A8,A7,A6,A5,AZ])
 ·rw [inE,if_neg (by simp_all)] at h;exact h
 ·rename_i hin hlv
  have hin:0≤s∧s≤(a.length:Int)-1:=Decidable.not_not.1 hin
  rw [inE,if_pos ⟨hin,by simpa using hlv⟩] at h
  generalize CM s (ob a s.toNat).gen=id at h ⊢
  refine BD (fun i=>[I (CD (a.take i) id),I id,iv i]) (fun _=>[]) a.length (fun _=>True) rfl rfl trivial (fun R i hi _ hR=> ?_)
  have he:=M4 (l:=a.take i) (id:=id) (b:=1048576) fun o ho=>by have:=hf o (List.mem_of_mem_take ho);omega
  have hln:(a.take i).length≤a.length:=by simp;omega
  have hmul:(a.take i).length*1048576≤1048576*1048576:=Nat.mul_le_mul_right _ (by omega)
  have hfo:=cR hf i
  simp only [AG,AK,AN,AM,AI,AD,AE,AP,AO,AJ,AQ,AR,AL,AH,BE,BJ,BH,BG,BK,BI,BF,A4,A8,A7,A6,A5,AZ]
  refine AX (AW (fun hlt=> ?_) fun hge=> ?_)
  ·have hlt:i<a.length:=by omega
   replace hR:=hR hlt trivial
   rw [U5 hlt,M7] at hR
   refine BD (fun j=>[I ((CD (a.take i) id+(if (ob a i).live=true then ((ob a i).field.take j).count id else 0):Nat):Int),I id,iv i,iv j]) (fun _=>[]) (ob a i).field.length (fun _=>True) (by simp only [List.take_zero,List.count_nil,ite_self,Nat.add_zero];rfl) rfl trivial (fun R2 j hj _ hR2=> ?_)
   have hc:((ob a i).field.take j).count id≤j:=Nat.le_trans List.count_le_length (by simp;omega)
   refine AS hlt (YD hlt ?_)
   rw [G3 hlt,AD]
   by_cases hv:(ob a i).live=true
   ·simp only [if_pos hv] at hR hR2 ⊢
    refine AX (BW (BW (BW (KI (fun hlt2=> ?_) fun hge2=> ?_))))
    ·have hlt2':j<(ob a i).field.length:=by
      have:(j:Int)<((ob a i).field.length:Int):=hlt2
      omega
     replace hR2:=hR2 hlt2' trivial
     rw [V5 hlt2'] at hR2
     refine AS hlt (BW (HV hlt2 (J1 hlt rfl (DX hlt2 rfl (eY hv (BO (AS hlt (YD hlt ?_))))))))
     rw [G3 hlt,AD]
     refine AS hlt2' (MJ hlt hlt2' (BP (AW (fun he=> ?_) fun he=> ?_)))
     ·rw [if_pos he] at hR2
      exact ET ⟨by omega,by omega⟩ (BA (by omega) hR2)
     ·rw [if_neg he] at hR2
      exact BA (by omega) hR2
    ·have:j=(ob a i).field.length:=by
      have: ¬(j:Int)<((ob a i).field.length:Int):=hge2
      omega
     subst this
     rw [List.take_length] at hc ⊢
     exact BW (LA hge2 (DW hge2 rfl (BY (BA (by omega) hR))))
   ·have hv:(ob a i).live=false:=by simpa using hv
    simp only [hv,Bool.false_eq_true,if_false] at hR hR2 ⊢
    refine AX (BW (BW (BW (KI (fun hlt2=> ?_) fun hge2=> ?_))))
    ·exact AS hlt (BW (HV hlt2 (J1 hlt (v:= .bool false) (by rw [←hv];rfl) (DX hlt2 rfl (BY (BA (by omega) hR))))))
    ·exact BW (LA hge2 (DW hge2 rfl (BY (BA (by omega) hR))))
  ·have:i=a.length:=by omega
   subst this
   rw [List.take_length];exact h
 ·rw [inE,if_neg (by rintro ⟨h1,h2⟩;simp_all)] at h;exact h
theorem iM {l:List Int} {i:Nat} {x:Int} (hi:i<l.length) (h:x∉l.take i) (hn:gI l i≠x):x∉l.take (i+1):=by
 rw [List.take_succ_eq_append_getElem hi,EE hi]
 simp only [List.mem_append,List.mem_singleton,not_or]
 exact ⟨h,fun he=>hn he.symm⟩
theorem DV {l:List Int} {i:Nat} (h:i<l.length):gI l i∈l:=by rw [←EE h];exact List.getElem_mem h
theorem NH {l:List Int} {x:Int} {K:J2} (hl:(l.length:Int)<2^62) (h:K [.bool (decide (x∈l))] []):cl2 ⟨Try.prog,w0⟩ 89 FI.sg [I x] [tI l] K:=by
 refine FI.cl2 ?_
 unfold FI.txt
 simp only [AG,AK,AN,AM,AI,AD,AE,AP,AO,AJ,AQ,AR,AL,AH,BE,BJ,BH,BG,BK,BI,BF,A4,A8,A7,A6,A5,AZ]
 refine BD (fun i=>[I x,iv i]) (fun _=>[]) l.length (fun i=>x∉l.take i) rfl rfl (by simp) (fun R i hi hP hR=> ?_)
 refine AX (AW (fun hlt=> ?_) fun hge=> ?_)
 ·have hlt:i<l.length:=by omega
  refine AS hlt (ldI hlt (BP (AW (fun he=> ?_) fun he=> ?_)))
  ·rw [decide_eq_true (he ▸ DV hlt)] at h;exact h
  ·exact BA (by omega) (hR hlt (iM hlt hP he))
 ·have:i=l.length:=by omega
  subst this
  rw [List.take_length] at hP
  rw [decide_eq_false hP] at h;exact h
attribute [irreducible] inE CD
end Go.Proofs.Ytklmcfpgdfibnaa.P
namespace Go.Proofs.Ytklmcfpgdfibnaa.P
open Go Go.Proofs.Ytklmcfpgdfibnaa Go.Proofs.Ytklmcfpgdfibnaa.Eng
set_option linter.unusedVariables false
def inB (n lo hi:Int):Bool:=decide (n≥lo)&&decide (n≤hi)
def OY (n:Int):Bool:=inB n (-1000000000) 1000000000
def rV (a b c d:Int) (s:ByteArray):Bool:=(((OY a&&OY b)&&OY c)&&OY d)&&decide ((s.size:Int)≤8)
def uI (c v:Int) (l:List Int):Bool:=(inB c 0 6&&OY v&&decide (l.length≤8))&&l.all OY
end Go.Proofs.Ytklmcfpgdfibnaa.P
namespace Go.Proofs.Ytklmcfpgdfibnaa.P
open Go Go.Proofs.Ytklmcfpgdfibnaa Go.Proofs.Ytklmcfpgdfibnaa.Eng
set_option linter.unusedVariables false
def MH (l:List Nat):ByteArray:=l.foldl (fun b n=>b.push (UInt8.ofNat n)) ByteArray.empty
theorem aW (l:List Nat):(MH l).size=l.length:=by
 have: ∀(l:List Nat) (b:ByteArray),(l.foldl (fun b n=>b.push (UInt8.ofNat n)) b).size=b.size+l.length:=by
  intro l
  induction l with
  | nil=>intro b;rfl
  | cons a l ih=>intro b;rw [List.foldl_cons,ih,ByteArray.size_push,List.length_cons];omega
 rw [MH,this];simp
def vd:Nat→Nat→List Nat
 | 0,n=>[n]
 | k+1,n=>if n≥128 then (128+n % 128)::vd k (n/128) else [n]
theorem l8: ∀k n,(vd k n).length≤k+1
 | 0,n=>by simp [vd]
 | k+1,n=>by
   unfold vd;split
   ·have:=l8 k (n/128);simp only [List.length_cons];omega
   ·simp
def V (n:Int):ByteArray:=if inB n 0 562949953421311 then MH (vd 6 n.toNat) else ⟨#[]⟩
theorem QS (n:Int):(V n).size≤7:=by
 unfold V;split
 ·rw [aW];exact l8 6 _
 ·exact Nat.zero_le _
attribute [irreducible] V
end Go.Proofs.Ytklmcfpgdfibnaa.P
namespace Go.Proofs.Ytklmcfpgdfibnaa.P
open Go Go.Proofs.Ytklmcfpgdfibnaa Go.Proofs.Ytklmcfpgdfibnaa.Eng
set_option linter.unusedVariables false
def zg (n:Int):Int:=if inB n (-100000000000000) 100000000000000 then (if n<0 then -2*n-1 else 2*n) else -1
theorem fH {n lo hi:Int}:inB n lo hi=true↔lo≤n∧n≤hi:=by simp [inB]
def SI (n:Int):ByteArray:=V (zg n)
def ST (s:ByteArray):ByteArray:=if (s.size:Int)>8 then ⟨#[]⟩ else V s.size++s
theorem oK (s:ByteArray):(ST s).size≤15:=by
 unfold ST;split
 ·exact Nat.zero_le _
 ·have:=QS s.size
  rw [ByteArray.size_append];omega
theorem mO {a b:ByteArray} {p q:Prop} (h1:a=b→p) (h2:a≠b→q):AV (.bool (a.toList==b.toList)) p q:=
 SU (fun h=>h1 (dA (by simpa using h))) (fun h=>h2 (by rintro rfl;simp at h))
instance :LawfulBEq ByteArray where
 eq_of_beq {a b} h:=by
  cases a;cases b
  have h:_==_:=h
  first | exact congrArg _ (eq_of_beq h) | (simp [BEq.beq,instBEqByteArray.beq] at h;simpa using h) | (simp_all)
 rfl {a}:=by
  cases a
  first | exact beq_self_eq_true (α:=Array UInt8) _ | (show ByteArray.beq _ _=true;unfold ByteArray.beq;simp) | (simp [BEq.beq,ByteArray.beq])
def at_ (l:List ByteArray) (s:ByteArray):Int:=if s∈l then (l.idxOf s:Int) else -1
theorem cZ {l:List ByteArray} {s:ByteArray} {i:Nat} (hi:i<l.length) (h1:s∉l.take i) (h2:l[i]≠s):s∉l.take (i+1):=by
 rw [List.take_succ_eq_append_getElem hi]
 simp only [List.mem_append,List.mem_singleton,not_or]
 exact ⟨h1,fun h=>h2 h.symm⟩
theorem nA {l:List ByteArray} {s:ByteArray} {i:Nat} (hi:i<l.length) (h1:s∉l.take i) (h2:l[i]=s):at_ l s=i:=by
 have hm:s∈l:=h2 ▸ List.getElem_mem hi
 rw [at_,if_pos hm]
 have e:l=l.take i++l[i]::l.drop (i+1):=by rw [←List.drop_eq_getElem_cons hi,List.take_append_drop]
 have hx:l.idxOf s=i:=by
  rw [e,List.idxOf_append,if_neg h1,h2,List.idxOf_cons_self]
  simp;omega
 rw [hx]
theorem WO {w0:World} {s:ByteArray} {l:List ByteArray} {K:J2} (hl:(l.length:Int)<2^62) (h:K [I (at_ l s)] []):cl2 ⟨Try.prog,w0⟩ 162 GD.sg [.string s] [tS l] K:=by
 refine GD.cl2 ?_
 unfold GD.txt
 simp only [AE]
 refine BD (fun i=>[.string s,iv l.length,iv i]) (fun _=>[]) l.length (fun i=>s∉l.take i) rfl rfl (by simp) (fun R i hi hP hR=> ?_)
 refine nG (AW (fun hlt=> ?_) fun hge=> ?_)
 ·refine AS hlt (mW hlt (Z0 (mO (fun he=> ?_) fun hne=> ?_)))
  ·rw [nA hlt hP he] at h;exact h
  ·exact BA (by omega) (hR hlt (cZ hlt hP hne))
 ·have:i=l.length:=by omega
  subst this
  rw [List.take_length] at hP
  rw [at_,if_neg hP] at h;exact h
end Go.Proofs.Ytklmcfpgdfibnaa.P
