/- A part of the proof. -/
import Derived.Test.YthapfcoajahegaaDoorReLawTyNode
import Derived.Test.YthapfcoajahegaaDoorReRowT
import Derived.Test.YthapfcoajahegaaDoorReTxtB
namespace Go.Proofs.YthapfcoajahegaaDoor.P
open Go Go.Proofs.YthapfcoajahegaaDoor Go.Proofs.YthapfcoajahegaaDoor.Eng
set_option maxHeartbeats 4000000
set_option linter.unusedVariables false
set_option linter.unusedSimpArgs false
attribute [local irreducible] prP gP gE gF AY ixW ldc ldg ldl stc stg scW mkW apW A6 cl2 BL C5 BX
variable {w0:World}
structure Gr where
 nodes:List Nd
 CY:List Wk
 sites:List ByteArray
def vT (o:AD):Nd:=⟨o.live,o.gen,o.site,o.holds,o.roots,o.field⟩
def uW (h:Hp):Gr:=⟨h.AG.map vT,h.CY,h.sites⟩
theorem IL {l:List Int} {K:J2} (hl:(l.length:Int)≤2^40) (h:K [] [tI l]):cl2 ⟨Tryd.prog,w0⟩ 38 CA.sg [] [tI l] K:=by
 refine CA.cl2 ?_
 unfold CA.txt
 simp only [AM,AS,AW,AU,AO,AI,AJ,AQ,AK,AP,AN,AR,AL,AV,CF,CQ,CO,CT,CL,CN,CP,BD,BE,BG,BH,BJ,BF]
 refine D5 (DB l) (by omega) ?_
 rw [List.nil_append];exact h
theorem SY {l:List ByteArray} {K:J2} (hl:(l.length:Int)≤2^40) (h:K [] [tS l]):cl2 ⟨Tryd.prog,w0⟩ 40 E9.sg [] [tS l] K:=by
 refine E9.cl2 ?_
 unfold E9.txt
 simp only [AM,AS,AW,AU,AO,AI,AJ,AQ,AK,AP,AN,AR,AL,AV,CF,CQ,CO,CT,CL,CN,CP,BD,BE,BG,BH,BJ,BF]
 refine D5 (DC l) (by omega) ?_
 rw [List.nil_append];exact h
theorem uK {l:List AD} {P:AD→Prop} (h: ∀o∈l,P o) {i:Nat} (hi:i<l.length):P (ob l i):=by rw [←FH hi];exact h _ (List.getElem_mem hi)
def rM (g:Gr):Int:=szL bV g.nodes+szL TK g.CY+g.sites.length
structure S3 (g:Gr):Prop where
 nl:(g.nodes.length:Int)≤1048576
 nf: ∀o∈g.nodes,(o.field.length:Int)≤1048576
 wl:(g.CY.length:Int)≤1048576
 sl:(g.sites.length:Int)≤1048576
theorem S3.of {h:Hp} (hf:Fits h):S3 (uW h):=by
 refine ⟨?_, ?_,hf.wl,hf.sl⟩
 ·simp only [uW,List.length_map];exact hf.ol
 ·intro o ho
  obtain ⟨x,hx,rfl⟩:=List.mem_map.1 ho
  exact hf.of x hx
theorem S3.nodes {g:Gr} (hf:S3 g):0≤szL bV g.nodes∧szL bV g.nodes≤2^41:=by
 refine ⟨RM lL _, ?_⟩
 have h1:=VV (sz:=bV) (b:=1048581) (l:=g.nodes) fun o ho=>by have:=hf.nf o ho;unfold bV;omega
 have h2:=hf.nl
 have h3:(g.nodes.length:Int)*1048581≤1048576*1048581:=Int.mul_le_mul_of_nonneg_right h2 (by omega)
 omega
theorem S3.CY {g:Gr} (hf:S3 g):0≤szL TK g.CY∧szL TK g.CY≤2^41:=by
 refine ⟨RM Z1 _, ?_⟩
 have h1:=VV (sz:=TK) (b:=2) (l:=g.CY) fun o ho=>by unfold TK;omega
 have h2:=hf.wl
 omega
theorem S3.sz {g:Gr} (hf:S3 g):0≤rM g∧rM g≤2^43:=by
 have h1:=hf.nodes;have h2:=hf.CY;have h4:=hf.sl
 unfold rM;omega
end Go.Proofs.YthapfcoajahegaaDoor.P
namespace Go.Proofs.YthapfcoajahegaaDoor.P
open Go Go.Proofs.YthapfcoajahegaaDoor Go.Proofs.YthapfcoajahegaaDoor.Eng
set_option maxHeartbeats 4000000
set_option linter.unusedVariables false
set_option linter.unusedSimpArgs false
attribute [local irreducible] prP gP gE gF AY ixW ldc ldg ldl stc stg scW mkW apW A6 cl2 BL C5 BX
variable {w0:World}
def OG (id:Int) (o:AD):Nat:=if o.live=true then o.field.count id else 0
def B3 (l:List AD) (id:Int):Nat:=(l.map (OG id)).sum
def inE (l:List AD) (s:Int):Int:=if (0≤s∧s≤l.length-1)∧(ob l s.toNat).live=true then B3 l (CV s (ob l s.toNat).gen) else 0
theorem cN {l:List AD} {i:Nat} {id:Int} (hi:i<l.length):B3 (l.take (i+1)) id=B3 (l.take i) id+OG id (ob l i):=by
 rw [B3,List.take_succ_eq_append_getElem hi,List.map_append,List.sum_append,FH hi];simp [B3]
theorem b9 {l:List Int} {j:Nat} {id:Int} (hj:j<l.length):(l.take (j+1)).count id=(l.take j).count id+if gI l j=id then 1 else 0:=by
 rw [List.take_succ_eq_append_getElem hj,List.count_append,G3 hj,List.count_singleton]
 simp
theorem nT (id:Int) (o:AD):OG id o≤o.field.length:=by
 unfold OG;split
 ·exact List.count_le_length
 ·exact Nat.zero_le _
theorem RJ {l:List AD} {id:Int} {b:Nat} (h: ∀o∈l,o.field.length≤b):B3 l id≤l.length*b:=by
 induction l with
 | nil=>simp [B3]
 | cons o l ih=>
   have h1:=ih fun x hx=>h x (by simp [hx])
   have h2:=nT id o
   have h3:=h o (by simp)
   simp only [B3,List.map_cons,List.sum_cons,List.length_cons,Nat.add_mul,Nat.one_mul] at h1 ⊢
   omega
theorem qH {l:List AD} (hf: ∀o∈l,(o.field.length:Int)≤1048576) (i:Nat):((ob l i).field.length:Int)≤1048576:=by
 by_cases hi:i<l.length
 ·rw [←FH hi];exact hf _ (List.getElem_mem hi)
 ·unfold ob;rw [List.getD_eq_getElem?_getD,List.getElem?_eq_none (by omega)];simp
theorem VY {a:List AD} {b c d:List T} {s:Int} {K:J2} (hs:F64 s) (hl:(a.length:Int)≤1048576) (hf: ∀o∈a,(o.field.length:Int)≤1048576) (h:K [I (inE a s)] []):cl2 ⟨Tryd.prog,w0⟩ 34 GO.sg [I s] [tR tO a,b,c,d] K:=by
 obtain ⟨s1,s2⟩:=hs
 refine GO.cl2 ?_
 unfold GO.txt
 simp only [AM,AS,AW,AU,AO,AI,AJ,AQ,AK,AP,AN,AR,AL,AV,CF,CQ,CO,CT,CL,CN,CP,BD,BE,BG,BH,BJ,BF]
 repeat' (first | refine JZ ?_ | refine MW ?_ | refine IQ ?_ | refine KN ?_ | refine JK ?_ | refine H0 ?_ | refine H4 ?_ | refine HZ ?_ | refine FZ ?_ | refine FV ?_ | refine FO ?_ | refine FN ?_ | refine HK (by first | with_reducible assumption | omega) ?_ | refine HI (by first | with_reducible assumption | omega) ?_ | refine FD (by first | with_reducible assumption | omega) ?_ | refine FC (by first | with_reducible assumption | omega) ?_ | refine HC (by with_reducible assumption) ?_ | refine HB (by with_reducible assumption) ?_ | refine EW (by with_reducible assumption) ?_ | refine FF (by with_reducible assumption) ?_ | refine HV ?_ | refine H3 ?_ | refine HW ?_ | refine HG ?_ | refine HA (by first | with_reducible assumption | omega) ?_ | refine HN (by first | with_reducible assumption | omega) ?_ | refine HY (by first | with_reducible assumption | omega) ?_ | refine GV (by first | with_reducible assumption | omega) ?_ | refine GD (by with_reducible assumption) ?_ | refine DO (by with_reducible assumption) ?_ | refine DM (by with_reducible assumption) ?_ | refine J8 (by with_reducible assumption) rfl ?_ | refine KI (by with_reducible assumption) rfl ?_ | refine JT (by first | with_reducible assumption | omega) rfl ?_ | refine JJ (by first | with_reducible assumption | omega) rfl ?_ | refine KO rfl ?_ | refine KH rfl ?_ | refine EC ?_ | refine DI ?_ | refine BW (by first | with_reducible assumption | omega) ?_ | refine CW (by first | with_reducible assumption | omega) ?_ | refine DG (by with_reducible assumption) ?_ | refine B5 (by with_reducible assumption) ?_ | refine A4 ?_ | refine CZ ?_ | refine CX ?_ | refine C0 ?_ | refine B8 ?_ | refine CB ?_ | refine BU ?_ | refine BY ?_ | refine DH ?_ | refine AZ (by omega) ?_ | refine CC ⟨by omega,by omega⟩ ?_ | refine C8 ⟨by omega,by omega⟩ ?_ | refine BV ?_ | refine B6 ?_ | refine C2 (by omega) (by omega) ?_ | refine DP (by omega) ⟨by omega,by omega⟩ (by omega) ?_ | refine B7 ?_ | refine CE ?_ | refine CD (by first | omega | (simp only [ByteArray.size_append];omega)) ?_ | refine DN ?_ | refine DR ?_ | refine A5 (by omega) ?_ | refine H2 (by omega) (by omega) ?_ | refine ldI (by omega) ?_ | refine ldS (by omega) ?_ | refine EG (by omega) ?_ | refine EY (by omega) ?_ | refine FB (by omega) ?_ | refine FL (by omega) ?_ | refine FT (by omega) ?_ | refine EP (by omega) (by decide) rfl ?_ | refine C9 (by omega) rfl ?_ | refine F4 (by omega) (by decide) rfl ?_ | refine C4 (by omega) rfl ?_ | refine FY (by omega) (by decide) rfl ?_ | refine DL (by omega) rfl ?_ | refine FP (by omega) (by decide) rfl ?_ | refine DD (by omega) rfl ?_ | refine FU (by omega) (by decide) rfl ?_ | refine DK (by omega) rfl ?_ | refine EE (by omega) (by omega) ?_ | refine FW (by omega) ?_ | refine F5 (by omega) (by omega) ?_ | refine FR (by omega) ?_ | refine FJ (by omega) (by omega) ?_ | refine FK (by omega) ?_ | refine EB (by omega) rfl rfl ?_ | refine EF (by omega) ?_ | refine ER (by omega) ?_ | refine DV (by omega) (by decide) rfl ?_ | refine CI (by omega) rfl ?_ | refine D5 (by first | exact DB _ | exact DC _ | exact DA _ | exact DQ _ | rfl) (by omega) ?_ | refine G4 (by omega) ?_ | refine A8 (fun _=> ?_) (fun _=> ?_) | refine HU rfl rfl (fun _=> ?_) (fun _=> ?_) | refine HT rfl rfl (fun _=> ?_) (fun _=> ?_) | refine FM (fun _=> ?_) (fun _=> ?_) | refine FI (fun _=> ?_) (fun _=> ?_) | refine G5 (fun _=> ?_) (fun _=> ?_) | refine HS (fun _=> ?_) (fun _=> ?_) | refine ES (fun _=> ?_) (fun _=> ?_) | refine HF (fun _=> ?_) (fun _=> ?_) | refine HM (fun _=> ?_) (fun _=> ?_) | refine CJ ?_ | simp only [AM,AS,AW,AU,AO,AI,AJ,AQ,AK,AP,AN,AR,AL,AV,CF,CQ,CO,CT,CL,CN,CP,BD,BE,BG,BH,BJ,BF])
 ·rw [inE,if_neg (by simp_all)] at h;exact h
 ·rename_i hin hlv
  have hin:0≤s∧s≤(a.length:Int)-1:=Decidable.not_not.1 hin
  rw [inE,if_pos ⟨hin,by simpa using hlv⟩] at h
  generalize CV s (ob a s.toNat).gen=id at h ⊢
  refine DZ (fun i=>[I id,I (B3 (a.take i) id),iv a.length,iv i]) (fun _=>[]) a.length (fun _=>True) rfl rfl trivial (fun R i hi _ hR=> ?_)
  have he:=RJ (l:=a.take i) (id:=id) (b:=1048576) fun o ho=>by have:=hf o (List.mem_of_mem_take ho);omega
  have hln:(a.take i).length≤a.length:=by simp;omega
  have hmul:(a.take i).length*1048576≤1048576*1048576:=Nat.mul_le_mul_right _ (by omega)
  have hfo:=qH hf i
  simp only [AM,AS,AW,AU,AO,AI,AJ,AQ,AK,AP,AN,AR,AL,AV,CF,CQ,CO,CT,CL,CN,CP,BD,BE,BG,BH,BJ,BF]
  refine A4 (A8 (fun hlt=> ?_) fun hge=> ?_)
  ·have hlt:i<a.length:=by omega
   replace hR:=hR hlt trivial
   rw [cN hlt,OG] at hR
   refine A5 hlt (EG hlt ?_)
   rw [Q9 hlt,AI]
   refine DZ (fun j=>[I id,I ((B3 (a.take i) id+(if (ob a i).live=true then ((ob a i).field.take j).count id else 0):Nat):Int),iv a.length,iv i,iv (AB (iv i)*8+6),iv (ob a i).field.length,iv j, .bool (ob a i).live,I (ob a i).gen,I (ob a i).site,I (ob a i).holds,I (ob a i).roots,I (ob a i).count,iv (AB (iv i)*8+6), .bool (ob a i).purple]) (fun _=>[]) (ob a i).field.length (fun _=>True) (by simp only [List.take_zero,List.count_nil,ite_self,Nat.add_zero];rfl) rfl trivial (fun R2 j hj _ hR2=> ?_)
   have hc:((ob a i).field.take j).count id≤j:=Nat.le_trans List.count_le_length (by simp;omega)
   simp only [AM,AS,AW,AU,AO,AI,AJ,AQ,AK,AP,AN,AR,AL,AV,CF,CQ,CO,CT,CL,CN,CP,BD,BE,BG,BH,BJ,BF]
   refine A4 (A8 (fun hlt2=> ?_) fun hge2=> ?_)
   ·have hlt2:j<(ob a i).field.length:=by omega
    replace hR2:=hR2 hlt2 trivial
    rw [b9 hlt2] at hR2
    rw [BB (AB (iv i)*8+6),Q9 hlt,AI]
    refine HH (A5 hlt2 (EE hlt hlt2 (IQ (IQ ?_))))
    by_cases hv:(ob a i).live=true
    ·simp only [if_pos hv] at hR2 ⊢
     refine GD hv (B8 (J8 hv rfl (A8 (fun he=> ?_) fun he=> ?_)))
     ·rw [if_pos he] at hR2
      exact CC ⟨by omega,by omega⟩ (AZ (by omega) hR2)
     ·rw [if_neg he] at hR2
      exact AZ (by omega) hR2
    ·have hv:(ob a i).live=false:=by simpa using hv
     simp only [hv,Bool.false_eq_true,if_false] at hR2 ⊢
     exact HG (KH rfl (DI (AZ (by omega) hR2)))
   ·have:j=(ob a i).field.length:=by omega
    subst this
    rw [List.take_length] at hc ⊢
    exact AZ (by omega) hR
  ·have:i=a.length:=by omega
   subst this
   rw [List.take_length];exact h
 ·rw [inE,if_neg (by rintro ⟨h1,h2⟩;simp_all)] at h;exact h
theorem JH {l:List Int} {i:Nat} (h:i<l.length):gI l i∈l:=by rw [←G3 h];exact List.getElem_mem h
attribute [irreducible] inE B3
end Go.Proofs.YthapfcoajahegaaDoor.P
namespace Go.Proofs.YthapfcoajahegaaDoor.P
open Go Go.Proofs.YthapfcoajahegaaDoor Go.Proofs.YthapfcoajahegaaDoor.Eng
set_option linter.unusedVariables false
def inB (n lo hi:Int):Bool:=decide (n≥lo)&&decide (n≤hi)
def O2 (n:Int):Bool:=inB n (-1000000000) 1000000000
def qI (a b c d:Int) (s:ByteArray):Bool:=(((O2 a&&O2 b)&&O2 c)&&O2 d)&&decide ((s.size:Int)≤8)
def tC (c v:Int) (l:List Int):Bool:=(inB c 0 6&&O2 v&&decide (l.length≤8))&&l.all O2
end Go.Proofs.YthapfcoajahegaaDoor.P
namespace Go.Proofs.YthapfcoajahegaaDoor.P
open Go Go.Proofs.YthapfcoajahegaaDoor Go.Proofs.YthapfcoajahegaaDoor.Eng
set_option linter.unusedVariables false
def NH (l:List Nat):ByteArray:=l.foldl (fun b n=>b.push (UInt8.ofNat n)) ByteArray.empty
theorem ZD (l:List Nat):(NH l).size=l.length:=by
 have: ∀(l:List Nat) (b:ByteArray),(l.foldl (fun b n=>b.push (UInt8.ofNat n)) b).size=b.size+l.length:=by
  intro l
  induction l with
  | nil=>intro b;rfl
  | cons a l ih=>intro b;rw [List.foldl_cons,ih,ByteArray.size_push,List.length_cons];omega
 rw [NH,this];simp
def vd:Nat→Nat→List Nat
 | 0,n=>[n]
 | k+1,n=>if n≥128 then (128+n % 128)::vd k (n/128) else [n]
theorem jW: ∀k n,(vd k n).length≤k+1
 | 0,n=>by simp [vd]
 | k+1,n=>by
   unfold vd;split
   ·have:=jW k (n/128);simp only [List.length_cons];omega
   ·simp
def V (n:Int):ByteArray:=if inB n 0 562949953421311 then NH (vd 6 n.toNat) else ⟨#[]⟩
theorem QV (n:Int):(V n).size≤7:=by
 unfold V;split
 ·rw [ZD];exact jW 6 _
 ·exact Nat.zero_le _
attribute [irreducible] V
end Go.Proofs.YthapfcoajahegaaDoor.P
namespace Go.Proofs.YthapfcoajahegaaDoor.P
open Go Go.Proofs.YthapfcoajahegaaDoor Go.Proofs.YthapfcoajahegaaDoor.Eng
set_option linter.unusedVariables false
def zg (n:Int):Int:=if inB n (-100000000000000) 100000000000000 then (if n<0 then -2*n-1 else 2*n) else -1
theorem eT {n lo hi:Int}:inB n lo hi=true↔lo≤n∧n≤hi:=by simp [inB]
def SI (n:Int):ByteArray:=V (zg n)
def ST (s:ByteArray):ByteArray:=if (s.size:Int)>8 then ⟨#[]⟩ else V s.size++s
theorem pK (s:ByteArray):(ST s).size≤15:=by
 unfold ST;split
 ·exact Nat.zero_le _
 ·have:=QV s.size
  rw [ByteArray.size_append];omega
theorem kC {a b:ByteArray} {p q:Prop} (h1:a=b→p) (h2:a≠b→q):AY (.bool (a.toList==b.toList)) p q:=
 ES (fun h=>h1 (c9 (by simpa using h))) (fun h=>h2 (by rintro rfl;simp at h))
instance :LawfulBEq ByteArray where
 eq_of_beq {a b} h:=by
  cases a;cases b
  have h:_==_:=h
  first | exact congrArg _ (eq_of_beq h) | (simp [BEq.beq,instBEqByteArray.beq] at h;simpa using h) | (simp_all)
 rfl {a}:=by
  cases a
  first | exact beq_self_eq_true (α:=Array UInt8) _ | (show ByteArray.beq _ _=true;unfold ByteArray.beq;simp) | (simp [BEq.beq,ByteArray.beq])
def at_ (l:List ByteArray) (s:ByteArray):Int:=if s∈l then (l.idxOf s:Int) else -1
theorem bK {l:List ByteArray} {s:ByteArray} {i:Nat} (hi:i<l.length) (h1:s∉l.take i) (h2:l[i]≠s):s∉l.take (i+1):=by
 rw [List.take_succ_eq_append_getElem hi]
 simp only [List.mem_append,List.mem_singleton,not_or]
 exact ⟨h1,fun h=>h2 h.symm⟩
theorem mN {l:List ByteArray} {s:ByteArray} {i:Nat} (hi:i<l.length) (h1:s∉l.take i) (h2:l[i]=s):at_ l s=i:=by
 have hm:s∈l:=h2 ▸ List.getElem_mem hi
 rw [at_,if_pos hm]
 have e:l=l.take i++l[i]::l.drop (i+1):=by rw [←List.drop_eq_getElem_cons hi,List.take_append_drop]
 have hx:l.idxOf s=i:=by
  rw [e,List.idxOf_append,if_neg h1,h2,List.idxOf_cons_self]
  simp;omega
 rw [hx]
theorem V8 {w0:World} {s:ByteArray} {l:List ByteArray} {K:J2} (hl:(l.length:Int)<2^62) (h:K [I (at_ l s)] []):cl2 ⟨Tryd.prog,w0⟩ 23 HJ.sg [.string s] [tS l] K:=by
 refine HJ.cl2 ?_
 unfold HJ.txt
 simp only [AJ]
 refine DZ (fun i=>[.string s,iv l.length,iv i]) (fun _=>[]) l.length (fun i=>s∉l.take i) rfl rfl (by simp) (fun R i hi hP hR=> ?_)
 refine nZ (A8 (fun hlt=> ?_) fun hge=> ?_)
 ·refine A5 hlt (ER hlt (Y4 (kC (fun he=> ?_) fun hne=> ?_)))
  ·rw [mN hlt hP he] at h;exact h
  ·exact AZ (by omega) (hR hlt (bK hlt hP hne))
 ·have:i=l.length:=by omega
  subst this
  rw [List.take_length] at hP
  rw [at_,if_neg hP] at h;exact h
end Go.Proofs.YthapfcoajahegaaDoor.P
namespace Go.Proofs.YthapfcoajahegaaDoor.P
open Go Go.Proofs.YthapfcoajahegaaDoor Go.Proofs.YthapfcoajahegaaDoor.Eng
set_option linter.unusedVariables false
def szB (s:ByteArray):Bool:=decide ((s.size:Int)≤8)
def sT (l:List ByteArray):Bool:=l.all szB&&decide l.Nodup
def sM (n:Int) (l:List ByteArray):Bool:=(O2 n&&decide (l.length≤400))&&sT l
def lF (l:List ByteArray) (s:ByteArray):ByteArray:=if s∈l then V (at_ l s+1) else V 0++ST s
def tT (l:List ByteArray) (s:ByteArray):List ByteArray:=if s∈l then l else l++[s]
end Go.Proofs.YthapfcoajahegaaDoor.P
namespace Go.Proofs.YthapfcoajahegaaDoor.P
open Go Go.Proofs.YthapfcoajahegaaDoor Go.Proofs.YthapfcoajahegaaDoor.Eng
set_option maxHeartbeats 4000000
set_option linter.unusedVariables false
set_option linter.unusedSimpArgs false
attribute [local irreducible] prP gP gE gF AY ixW ldc ldg ldl stc stg scW mkW apW A6 cl2 BL C5 BX
variable {w0:World}
theorem nB {a:List AD} {i:Nat} (hi:i<a.length):tR tO (a.take i)++[T.c (.bool (ob a i).live), .c (I (ob a i).gen), .c (I (ob a i).site), .c (I (ob a i).holds), .c (I (ob a i).roots), .c (I (ob a i).count), .l 1 (tI (ob a i).field), .c (.bool (ob a i).purple)]=tR tO (a.take (i+1)):=by
 rw [List.take_succ_eq_append_getElem hi,FH hi]
 exact dU _ (ob a i)
theorem TO {h:Hp} {K:J2} (hf:Fits h) (hk:K [] (trees h)):cl2 ⟨Tryd.prog,w0⟩ 29 F8.sg [] (trees h) K:=by
 obtain ⟨a,b,c,d⟩:=h
 have g1:=hf.ol;have g2:=hf.wl;have g3:=hf.sl;have g4:=hf.bl
 simp only at g1 g2 g3 g4
 refine F8.cl2 ?_
 unfold F8.txt
 simp only [AM,AS,AW,AU,AO,AI,AJ,AQ,AK,AP,AN,AR,AL,AV,CF,CQ,CO,CT,CL,CN,CP,BD,BE,BG,BH,BJ,BF]
 refine D5 (DA _) (by omega) (IL (by omega) (SY (by omega) ?_))
 refine DZ (fun i=>[iv a.length,iv i]) (fun i=>[tR tO (a.take i),tR tW b,tI c,tS d]) a.length (fun _=>True) rfl rfl trivial (fun R i hi hP hR=> ?_)
 simp only [AM,AS,AW,AU,AO,AI,AJ,AQ,AK,AP,AN,AR,AL,AV,CF,CQ,CO,CT,CL,CN,CP,BD,BE,BG,BH,BJ,BF]
 refine A4 (A8 (fun hlt=> ?_) fun hge=> ?_)
 ·have hlt:i<a.length:=by omega
  have hfo:((ob a i).field.length:Int)≤1048576:=uK (l:=a) hf.of hlt
  have hln:(a.take i).length=i:=by simp;omega
  replace hR:=hR hlt trivial
  refine A5 hlt (EG hlt ?_)
  rw [Q9 hlt]
  refine IL (by omega) (G4 (by rw [hln];omega) (AZ (by omega) ?_))
  rw [←nB hlt] at hR
  exact hR
 ·have:i=a.length:=by omega
  subst this
  rw [List.take_length];exact hk
structure OB (l:List ByteArray):Prop where
 len:l.length≤6
 sz: ∀i,i<l.length→1≤((gS l i).size:Int)∧((gS l i).size:Int)≤8
 one: ∀i,i<l.length→gS l i∉l.take i
structure tD (h:Hp) (i:Nat):Prop where
 gen:0≤(ob h.AG i).gen∧(ob h.AG i).gen≤999
 len:(ob h.AG i).field.length=3
 lead: ∀j,j<3→gI (ob h.AG i).field j≠ -1→(ob h.AG i).live=true∧0≤AA h.AG (gI (ob h.AG i).field j)
 dead:(ob h.AG i).live=false→(ob h.AG i).site=0∧(ob h.AG i).holds=0∧(ob h.AG i).roots=0∧(ob h.AG i).count=0∧(ob h.AG i).purple=false
 lv:(ob h.AG i).live=true→1≤(ob h.AG i).gen∧(0≤(ob h.AG i).site∧(ob h.AG i).site≤(h.sites.length:Int)-1)∧(0≤(ob h.AG i).holds∧(ob h.AG i).holds≤20)∧(0≤(ob h.AG i).roots∧(ob h.AG i).roots≤20)∧
  (ob h.AG i).count=(ob h.AG i).holds+(ob h.AG i).roots+inE h.AG i∧1≤(ob h.AG i).count∧(ob h.AG i).purple=decide (CV i (ob h.AG i).gen∈h.buffer)
structure DX (h:Hp):Prop where
 ol:h.AG.length=8
 wl:h.CY.length=8
 sites:OB h.sites
 obj: ∀i,i<8→tD h i
 weak: ∀i,i<8→((wk h.CY i).used=false→(wk h.CY i).target=0)∧((wk h.CY i).used=true→8≤(wk h.CY i).target∧(wk h.CY i).target≤7999)
 buf: ∀i,i<h.buffer.length→0≤AA h.AG (gI h.buffer i)∧gI h.buffer i∉h.buffer.take i
theorem pY {l:List Int} {P:Int→Prop} (h0:P 0) (h: ∀x∈l,P x) (i:Nat):P (gI l i):=by
 by_cases hi:i<l.length
 ·rw [←G3 hi];exact h _ (List.getElem_mem hi)
 ·unfold gI;rw [List.getD_eq_getElem?_getD,List.getElem?_eq_none (by omega)];exact h0
theorem UO:F64 0:=⟨by omega,by omega⟩
theorem V4.ob {h:Hp} (hn:V4 h) (i:Nat):F64 (ob h.AG i).gen∧F64 (ob h.AG i).site∧F64 (ob h.AG i).holds∧F64 (ob h.AG i).roots∧F64 (ob h.AG i).count∧ ∀f∈(ob h.AG i).field,F64 f:=by
 by_cases hi:i<h.AG.length
 ·rw [←FH hi];exact hn.obj _ (List.getElem_mem hi)
 ·unfold Eng.ob;rw [List.getD_eq_getElem?_getD,List.getElem?_eq_none (by omega)]
  exact ⟨UO,UO,UO,UO,UO,fun f hf=>by simp at hf⟩
theorem V4.fld {h:Hp} (hn:V4 h) (i j:Nat):F64 (gI (Eng.ob h.AG i).field j):=pY UO (hn.ob i).2.2.2.2.2 j
theorem V4.bf {h:Hp} (hn:V4 h) (i:Nat):F64 (gI h.buffer i):=pY UO hn.buf i
end Go.Proofs.YthapfcoajahegaaDoor.P
