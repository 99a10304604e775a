/- A part of the proof. -/
import Derived.Test.YtklmcfpgdfibnaaTrLawTyNode
import Derived.Test.YtklmcfpgdfibnaaTrRowT
import Derived.Test.YtklmcfpgdfibnaaTrTxtB
namespace Go.Proofs.Ytklmcfpgdfibnaa.P
open Go Go.Proofs.Ytklmcfpgdfibnaa Go.Proofs.Ytklmcfpgdfibnaa.Eng
set_option maxHeartbeats 4000000
set_option linter.unusedVariables false
set_option linter.unusedSimpArgs false
attribute [local irreducible] prP gP gE gF AX ixW ldc ldg ldl stc stg scW mkW apW BF cl2 BS DK CW
variable {w0:World}
structure Gr where
 nodes:List Nd
 B3:List Wk
 sites:List ByteArray
def vK (o:AG):Nd:=⟨o.live,o.gen,o.site,o.holds,o.roots,o.field⟩
def uF (h:Hp):Gr:=⟨h.AD.map vK,h.B3,h.sites⟩
theorem NA {l:List Int} {K:J2} (hl:(l.length:Int)≤2^40) (h:K [] [tI l]):cl2 ⟨Try.prog,w0⟩ 141 DM.sg [] [tI l] K:=by
 refine DM.cl2 ?_
 unfold DM.txt
 simp only [AJ,AT,AL,AR,AS,AE,AI,AU,AK,AN,AO,AQ,AM,AP,BJ,BO,BL,BM,BN,BP,BK,A9,A4,A6,A7,A8,A5]
 refine EH (LH l) (by omega) ?_
 rw [List.nil_append];exact h
theorem sN {l:List AG} {P:AG→Prop} (h: ∀o∈l,P o) {i:Nat} (hi:i<l.length):P (ob l i):=by rw [←DB hi];exact h _ (List.getElem_mem hi)
def rP (g:Gr):Int:=szL cL g.nodes+szL S5 g.B3+g.sites.length
structure SE (g:Gr):Prop where
 nl:(g.nodes.length:Int)≤1048576
 nf: ∀o∈g.nodes,(o.field.length:Int)≤1048576
 wl:(g.B3.length:Int)≤1048576
 sl:(g.sites.length:Int)≤1048576
theorem SE.of {h:Hp} (hf:Fits h):SE (uF h):=by
 refine ⟨?_, ?_,hf.wl,hf.sl⟩
 ·simp only [uF,List.length_map];exact hf.ol
 ·intro o ho
  obtain ⟨x,hx,rfl⟩:=List.mem_map.1 ho
  exact hf.of x hx
theorem SE.nodes {g:Gr} (hf:SE g):0≤szL cL g.nodes∧szL cL g.nodes≤2^41:=by
 refine ⟨QF lE _, ?_⟩
 have h1:=UM (sz:=cL) (b:=1048581) (l:=g.nodes) fun o ho=>by have:=hf.nf o ho;unfold cL;omega
 have h2:=hf.nl
 have h3:(g.nodes.length:Int)*1048581≤1048576*1048581:=Int.mul_le_mul_of_nonneg_right h2 (by omega)
 omega
theorem SE.B3 {g:Gr} (hf:SE g):0≤szL S5 g.B3∧szL S5 g.B3≤2^41:=by
 refine ⟨QF Z1 _, ?_⟩
 have h1:=UM (sz:=S5) (b:=2) (l:=g.B3) fun o ho=>by unfold S5;omega
 have h2:=hf.wl
 omega
theorem SE.sz {g:Gr} (hf:SE g):0≤rP g∧rP g≤2^43:=by
 have h1:=hf.nodes;have h2:=hf.B3;have h4:=hf.sl
 unfold rP;omega
end Go.Proofs.Ytklmcfpgdfibnaa.P
namespace Go.Proofs.Ytklmcfpgdfibnaa.P
open Go Go.Proofs.Ytklmcfpgdfibnaa Go.Proofs.Ytklmcfpgdfibnaa.Eng
set_option maxHeartbeats 4000000
set_option linter.unusedVariables false
set_option linter.unusedSimpArgs false
attribute [local irreducible] prP gP gE gF AX ixW ldc ldg ldl stc stg scW mkW apW BF cl2 BS DK CW
variable {w0:World}
def KF (id:Int) (o:AG):Nat:=if o.live=true then o.field.count id else 0
def CE (l:List AG) (id:Int):Nat:=(l.map (KF id)).sum
def inE (l:List AG) (s:Int):Int:=if (0≤s∧s≤l.length-1)∧(ob l s.toNat).live=true then CE l (CC s (ob l s.toNat).gen) else 0
theorem cG {l:List AG} {i:Nat} {id:Int} (hi:i<l.length):CE (l.take (i+1)) id=CE (l.take i) id+KF id (ob l i):=by
 rw [CE,List.take_succ_eq_append_getElem hi,List.map_append,List.sum_append,DB hi];simp [CE]
theorem U3 {l:List Int} {j:Nat} {id:Int} (hj:j<l.length):(l.take (j+1)).count id=(l.take j).count id+if gI l j=id then 1 else 0:=by
 rw [List.take_succ_eq_append_getElem hj,List.count_append,DA hj,List.count_singleton]
 simp
theorem oB (id:Int) (o:AG):KF id o≤o.field.length:=by
 unfold KF;split
 ·exact List.count_le_length
 ·exact Nat.zero_le _
theorem OI {l:List AG} {id:Int} {b:Nat} (h: ∀o∈l,o.field.length≤b):CE l id≤l.length*b:=by
 induction l with
 | nil=>simp [CE]
 | cons o l ih=>
   have h1:=ih fun x hx=>h x (by simp [hx])
   have h2:=oB id o
   have h3:=h o (by simp)
   simp only [CE,List.map_cons,List.sum_cons,List.length_cons,Nat.add_mul,Nat.one_mul] at h1 ⊢
   omega
theorem kA {l:List AG} (hf: ∀o∈l,(o.field.length:Int)≤1048576) (i:Nat):((ob l i).field.length:Int)≤1048576:=by
 by_cases hi:i<l.length
 ·rw [←DB hi];exact hf _ (List.getElem_mem hi)
 ·unfold ob;rw [List.getD_eq_getElem?_getD,List.getElem?_eq_none (by omega)];simp
theorem N5 {a:List AG} {b c d:List T} {s:Int} {K:J2} (hs:F64 s) (hl:(a.length:Int)≤1048576) (hf: ∀o∈a,(o.field.length:Int)≤1048576) (h:K [I (inE a s)] []):cl2 ⟨Try.prog,w0⟩ 88 DO.sg [I s] [tR tO a,b,c,d] K:=by
 obtain ⟨s1,s2⟩:=hs
 refine DO.cl2 ?_
 unfold DO.txt
 simp only [AJ,AT,AL,AR,AS,AE,AI,AU,AK,AN,AO,AQ,AM,AP,BJ,BO,BL,BM,BN,BP,BK,A9,A4,A6,A7,A8,A5]
 repeat' (first | refine DD ?_ | refine FE ?_ | refine BX ?_ | refine SM (by first | with_reducible assumption | omega) ?_ | refine IZ (by first | with_reducible assumption | omega) ?_ | refine FG (by first | with_reducible assumption | omega) rfl ?_ | refine FM (by first | with_reducible assumption | omega) rfl ?_ | refine CQ ?_ | refine F8 ?_ | refine HJ ⟨by omega,by omega⟩ ?_ | refine SF (by omega) (by omega) ?_ | refine HO (by omega) (by decide) rfl ?_ | refine HZ (by omega) rfl ?_ | refine NC (fun _=> ?_) (fun _=> ?_) | refine U7 (fun _=> ?_) (fun _=> ?_) | refine CT ?_ | simp only [AJ,AT,AL,AR,AS,AE,AI,AU,AK,AN,AO,AQ,AM,AP,BJ,BO,BL,BM,BN,BP,BK,A9,A4,A6,A7,A8,A5])
 ·rw [inE,if_neg (by simp_all)] at h;exact h
 ·rename_i hin hlv
  have hin:0≤s∧s≤(a.length:Int)-1:=Decidable.not_not.1 hin
  rw [inE,if_pos ⟨hin,by simpa using hlv⟩] at h
  generalize CC s (ob a s.toNat).gen=id at h ⊢
  refine BG (fun i=>[I (CE (a.take i) id),I id,iv i]) (fun _=>[]) a.length (fun _=>True) rfl rfl trivial (fun R i hi _ hR=> ?_)
  have he:=OI (l:=a.take i) (id:=id) (b:=1048576) fun o ho=>by have:=hf o (List.mem_of_mem_take ho);omega
  have hln:(a.take i).length≤a.length:=by simp;omega
  have hmul:(a.take i).length*1048576≤1048576*1048576:=Nat.mul_le_mul_right _ (by omega)
  have hfo:=kA hf i
  simp only [AJ,AT,AL,AR,AS,AE,AI,AU,AK,AN,AO,AQ,AM,AP,BJ,BO,BL,BM,BN,BP,BK,A9,A4,A6,A7,A8,A5]
  refine BA (AW (fun hlt=> ?_) fun hge=> ?_)
  ·have hlt:i<a.length:=by omega
   replace hR:=hR hlt trivial
   rw [cG hlt,KF] at hR
   refine BG (fun j=>[I ((CE (a.take i) id+(if (ob a i).live=true then ((ob a i).field.take j).count id else 0):Nat):Int),I id,iv i,iv j]) (fun _=>[]) (ob a i).field.length (fun _=>True) (by simp only [List.take_zero,List.count_nil,ite_self,Nat.add_zero];rfl) rfl trivial (fun R2 j hj _ hR2=> ?_)
   have hc:((ob a i).field.take j).count id≤j:=Nat.le_trans List.count_le_length (by simp;omega)
   refine AH hlt (P1 hlt ?_)
   rw [G6 hlt,AE]
   by_cases hv:(ob a i).live=true
   ·simp only [if_pos hv] at hR hR2 ⊢
    refine BA (BX (BX (BX (LD (fun hlt2=> ?_) fun hge2=> ?_))))
    ·have hlt2':j<(ob a i).field.length:=by
      have:(j:Int)<((ob a i).field.length:Int):=hlt2
      omega
     replace hR2:=hR2 hlt2' trivial
     rw [U3 hlt2'] at hR2
     refine AH hlt (BX (JQ hlt2 (HZ hlt rfl (FG hlt2 rfl (gL hv (BT (AH hlt (P1 hlt ?_))))))))
     rw [G6 hlt,AE]
     refine AH hlt2' (KO hlt hlt2' (BW (AW (fun he=> ?_) fun he=> ?_)))
     ·rw [if_pos he] at hR2
      exact FY ⟨by omega,by omega⟩ (BB (by omega) hR2)
     ·rw [if_neg he] at hR2
      exact BB (by omega) hR2
    ·have:j=(ob a i).field.length:=by
      have: ¬(j:Int)<((ob a i).field.length:Int):=hge2
      omega
     subst this
     rw [List.take_length] at hc ⊢
     exact BX (NB hge2 (FM hge2 rfl (CB (BB (by omega) hR))))
   ·have hv:(ob a i).live=false:=by simpa using hv
    simp only [hv,Bool.false_eq_true,if_false] at hR hR2 ⊢
    refine BA (BX (BX (BX (LD (fun hlt2=> ?_) fun hge2=> ?_))))
    ·exact AH hlt (BX (JQ hlt2 (HZ hlt (v:= .bool false) (by rw [←hv];rfl) (FG hlt2 rfl (CB (BB (by omega) hR))))))
    ·exact BX (NB hge2 (FM hge2 rfl (CB (BB (by omega) hR))))
  ·have:i=a.length:=by omega
   subst this
   rw [List.take_length];exact h
 ·rw [inE,if_neg (by rintro ⟨h1,h2⟩;simp_all)] at h;exact h
theorem gU {l:List Int} {i:Nat} {x:Int} (hi:i<l.length) (h:x∉l.take i) (hn:gI l i≠x):x∉l.take (i+1):=by
 rw [List.take_succ_eq_append_getElem hi,DA hi]
 simp only [List.mem_append,List.mem_singleton,not_or]
 exact ⟨h,fun he=>hn he.symm⟩
theorem DU {l:List Int} {i:Nat} (h:i<l.length):gI l i∈l:=by rw [←DA h];exact List.getElem_mem h
theorem HK {l:List Int} {x:Int} {K:J2} (hl:(l.length:Int)<2^62) (h:K [.bool (decide (x∈l))] []):cl2 ⟨Try.prog,w0⟩ 89 CH.sg [I x] [tI l] K:=by
 refine CH.cl2 ?_
 unfold CH.txt
 simp only [AJ,AT,AL,AR,AS,AE,AI,AU,AK,AN,AO,AQ,AM,AP,BJ,BO,BL,BM,BN,BP,BK,A9,A4,A6,A7,A8,A5]
 refine BG (fun i=>[I x,iv i]) (fun _=>[]) l.length (fun i=>x∉l.take i) rfl rfl (by simp) (fun R i hi hP hR=> ?_)
 refine BA (AW (fun hlt=> ?_) fun hge=> ?_)
 ·have hlt:i<l.length:=by omega
  refine AH hlt (ldI hlt (BW (AW (fun he=> ?_) fun he=> ?_)))
  ·rw [decide_eq_true (he ▸ DU hlt)] at h;exact h
  ·exact BB (by omega) (hR hlt (gU hlt hP he))
 ·have:i=l.length:=by omega
  subst this
  rw [List.take_length] at hP
  rw [decide_eq_false hP] at h;exact h
attribute [irreducible] inE CE
end Go.Proofs.Ytklmcfpgdfibnaa.P
namespace Go.Proofs.Ytklmcfpgdfibnaa.P
open Go Go.Proofs.Ytklmcfpgdfibnaa Go.Proofs.Ytklmcfpgdfibnaa.Eng
set_option linter.unusedVariables false
def inB (n lo hi:Int):Bool:=decide (n≥lo)&&decide (n≤hi)
def OO (n:Int):Bool:=inB n (-1000000000) 1000000000
def sD (a b c d:Int) (s:ByteArray):Bool:=(((OO a&&OO b)&&OO c)&&OO d)&&decide ((s.size:Int)≤8)
def tF (c v:Int) (l:List Int):Bool:=(inB c 0 6&&OO v&&decide (l.length≤8))&&l.all OO
end Go.Proofs.Ytklmcfpgdfibnaa.P
namespace Go.Proofs.Ytklmcfpgdfibnaa.P
open Go Go.Proofs.Ytklmcfpgdfibnaa Go.Proofs.Ytklmcfpgdfibnaa.Eng
set_option linter.unusedVariables false
def LQ (l:List Nat):ByteArray:=l.foldl (fun b n=>b.push (UInt8.ofNat n)) ByteArray.empty
theorem aX (l:List Nat):(LQ l).size=l.length:=by
 have: ∀(l:List Nat) (b:ByteArray),(l.foldl (fun b n=>b.push (UInt8.ofNat n)) b).size=b.size+l.length:=by
  intro l
  induction l with
  | nil=>intro b;rfl
  | cons a l ih=>intro b;rw [List.foldl_cons,ih,ByteArray.size_push,List.length_cons];omega
 rw [LQ,this];simp
def vd:Nat→Nat→List Nat
 | 0,n=>[n]
 | k+1,n=>if n≥128 then (128+n % 128)::vd k (n/128) else [n]
theorem jZ: ∀k n,(vd k n).length≤k+1
 | 0,n=>by simp [vd]
 | k+1,n=>by
   unfold vd;split
   ·have:=jZ k (n/128);simp only [List.length_cons];omega
   ·simp
def V (n:Int):ByteArray:=if inB n 0 562949953421311 then LQ (vd 6 n.toNat) else ⟨#[]⟩
theorem P5 (n:Int):(V n).size≤7:=by
 unfold V;split
 ·rw [aX];exact jZ 6 _
 ·exact Nat.zero_le _
attribute [irreducible] V
end Go.Proofs.Ytklmcfpgdfibnaa.P
namespace Go.Proofs.Ytklmcfpgdfibnaa.P
open Go Go.Proofs.Ytklmcfpgdfibnaa Go.Proofs.Ytklmcfpgdfibnaa.Eng
set_option linter.unusedVariables false
def zg (n:Int):Int:=if inB n (-100000000000000) 100000000000000 then (if n<0 then -2*n-1 else 2*n) else -1
theorem gB {n lo hi:Int}:inB n lo hi=true↔lo≤n∧n≤hi:=by simp [inB]
def SI (n:Int):ByteArray:=V (zg n)
def ST (s:ByteArray):ByteArray:=if (s.size:Int)>8 then ⟨#[]⟩ else V s.size++s
theorem o7 (s:ByteArray):(ST s).size≤15:=by
 unfold ST;split
 ·exact Nat.zero_le _
 ·have:=P5 s.size
  rw [ByteArray.size_append];omega
instance :LawfulBEq ByteArray where
 eq_of_beq {a b} h:=by
  cases a;cases b
  have h:_==_:=h
  first | exact congrArg _ (eq_of_beq h) | (simp [BEq.beq,instBEqByteArray.beq] at h;simpa using h) | (simp_all)
 rfl {a}:=by
  cases a
  first | exact beq_self_eq_true (α:=Array UInt8) _ | (show ByteArray.beq _ _=true;unfold ByteArray.beq;simp) | (simp [BEq.beq,ByteArray.beq])
def at_ (l:List ByteArray) (s:ByteArray):Int:=if s∈l then (l.idxOf s:Int) else -1
end Go.Proofs.Ytklmcfpgdfibnaa.P
namespace Go.Proofs.Ytklmcfpgdfibnaa.P
open Go Go.Proofs.Ytklmcfpgdfibnaa Go.Proofs.Ytklmcfpgdfibnaa.Eng
set_option linter.unusedVariables false
def szB (s:ByteArray):Bool:=decide ((s.size:Int)≤8)
def s9 (l:List ByteArray):Bool:=l.all szB&&decide l.Nodup
def uU (n:Int) (l:List ByteArray):Bool:=(OO n&&decide (l.length≤400))&&s9 l
theorem lB {n i:Nat} (hi:i≤n) {K:Value→Value→Prop} (h:K (iv 0) (iv i)):scW n none (some (iv i)) K:=
 ⟨0,i,rfl,by simp [bnd,iv],Nat.zero_le _,hi,h⟩
def lO (l:List ByteArray) (s:ByteArray):ByteArray:=if s∈l then V (at_ l s+1) else V 0++ST s
def s5 (l:List ByteArray) (s:ByteArray):List ByteArray:=if s∈l then l else l++[s]
end Go.Proofs.Ytklmcfpgdfibnaa.P
namespace Go.Proofs.Ytklmcfpgdfibnaa.P
open Go Go.Proofs.Ytklmcfpgdfibnaa Go.Proofs.Ytklmcfpgdfibnaa.Eng
set_option maxHeartbeats 4000000
set_option linter.unusedVariables false
set_option linter.unusedSimpArgs false
attribute [local irreducible] prP gP gE gF AX ixW ldc ldg ldl stc stg scW mkW apW BF cl2 BS DK CW
variable {w0:World}
theorem nY {a:List AG} {i:Nat} (hi:i<a.length):tR tO (a.take i)++[T.c (.bool (ob a i).live), .c (I (ob a i).gen), .c (I (ob a i).site), .c (I (ob a i).holds), .c (I (ob a i).roots), .c (I (ob a i).count), .l 1 (tI (ob a i).field), .c (.bool (ob a i).purple)]=tR tO (a.take (i+1)):=by
 rw [List.take_succ_eq_append_getElem hi,DB hi]
 exact nJ _ (ob a i)
theorem JH {h:Hp} {K:J2} (hf:Fits h) (hk:K [] (trees h)):cl2 ⟨Try.prog,w0⟩ 122 C0.sg [] (trees h) K:=by
 obtain ⟨a,b,c,d⟩:=h
 have g1:=hf.ol;have g2:=hf.wl;have g3:=hf.sl;have g4:=hf.bl
 simp only at g1 g2 g3 g4
 refine C0.cl2 ?_
 unfold C0.txt
 simp only [AJ,AT,AL,AR,AS,AE,AI,AU,AK,AN,AO,AQ,AM,AP,BJ,BO,BL,BM,BN,BP,BK,A9,A4,A6,A7,A8,A5]
 refine EH (eI _) (by simp only [cnt,List.length_nil];omega) (EH (LH _) (by omega) (EH (dZ _) (by omega) ?_))
 refine BG (fun i=>[iv i]) (fun i=>[tR tO (a.take i),tR tW b,tI c,tS d]) a.length (fun _=>True) rfl rfl trivial (fun R i hi hP hR=> ?_)
 simp only [AJ,AT,AL,AR,AS,AE,AI,AU,AK,AN,AO,AQ,AM,AP,BJ,BO,BL,BM,BN,BP,BK,A9,A4,A6,A7,A8,A5]
 refine BA (AW (fun hlt=> ?_) fun hge=> ?_)
 ·have hlt:i<a.length:=by omega
  have hfo:((ob a i).field.length:Int)≤1048576:=sN (l:=a) hf.of hlt
  have hln:(a.take i).length=i:=by simp;omega
  replace hR:=hR hlt trivial
  refine AH hlt (UZ hlt ?_)
  rw [G6 hlt]
  refine EH (LH _) (by first | omega | (simp only [AJ,AT,AL,AR,AS,AE,AI,AU,AK,AN,AO,AQ,AM,AP,BJ,BO,BL,BM,BN,BP,BK,A9,A4,A6,A7,A8,A5];omega)) (pJ (by rw [hln];omega) (BB (by omega) ?_))
  rw [←nY hlt] at hR
  exact hR
 ·have:i=a.length:=by omega
  subst this
  rw [List.take_length];exact hk
structure LB (l:List ByteArray):Prop where
 len:l.length≤6
 sz: ∀i,i<l.length→1≤((gS l i).size:Int)∧((gS l i).size:Int)≤8
 one: ∀i,i<l.length→gS l i∉l.take i
theorem c8 {l:List ByteArray} {i:Nat} {x:ByteArray} (hi:i<l.length) (h:x∉l.take i) (hn:gS l i≠x):x∉l.take (i+1):=by
 rw [List.take_succ_eq_append_getElem hi,RF hi]
 simp only [List.mem_append,List.mem_singleton,not_or]
 exact ⟨h,fun he=>hn he.symm⟩
structure SA (h:Hp) (i:Nat):Prop where
 gen:0≤(ob h.AD i).gen∧(ob h.AD i).gen≤999
 len:(ob h.AD i).field.length=3
 lead: ∀j,j<3→gI (ob h.AD i).field j≠ -1→(ob h.AD i).live=true∧0≤AA h.AD (gI (ob h.AD i).field j)
 dead:(ob h.AD i).live=false→(ob h.AD i).site=0∧(ob h.AD i).holds=0∧(ob h.AD i).roots=0∧(ob h.AD i).count=0∧(ob h.AD i).purple=false
 lv:(ob h.AD i).live=true→1≤(ob h.AD i).gen∧(0≤(ob h.AD i).site∧(ob h.AD i).site≤(h.sites.length:Int)-1)∧(0≤(ob h.AD i).holds∧(ob h.AD i).holds≤20)∧(0≤(ob h.AD i).roots∧(ob h.AD i).roots≤20)∧
  (ob h.AD i).count=(ob h.AD i).holds+(ob h.AD i).roots+inE h.AD i∧1≤(ob h.AD i).count∧(ob h.AD i).purple=decide (CC i (ob h.AD i).gen∈h.buffer)
structure BZ (h:Hp):Prop where
 ol:h.AD.length=8
 wl:h.B3.length=8
 sites:LB h.sites
 obj: ∀i,i<8→SA h i
 weak: ∀i,i<8→((wk h.B3 i).used=false→(wk h.B3 i).target=0)∧((wk h.B3 i).used=true→8≤(wk h.B3 i).target∧(wk h.B3 i).target≤7999)
 buf: ∀i,i<h.buffer.length→0≤AA h.AD (gI h.buffer i)∧gI h.buffer i∉h.buffer.take i
theorem pY {l:List Int} {P:Int→Prop} (h0:P 0) (h: ∀x∈l,P x) (i:Nat):P (gI l i):=by
 by_cases hi:i<l.length
 ·rw [←DA hi];exact h _ (List.getElem_mem hi)
 ·unfold gI;rw [List.getD_eq_getElem?_getD,List.getElem?_eq_none (by omega)];exact h0
theorem U2:F64 0:=⟨by omega,by omega⟩
theorem S9.ob {h:Hp} (hn:S9 h) (i:Nat):F64 (ob h.AD i).gen∧F64 (ob h.AD i).site∧F64 (ob h.AD i).holds∧F64 (ob h.AD i).roots∧F64 (ob h.AD i).count∧ ∀f∈(ob h.AD i).field,F64 f:=by
 by_cases hi:i<h.AD.length
 ·rw [←DB hi];exact hn.obj _ (List.getElem_mem hi)
 ·unfold Eng.ob;rw [List.getD_eq_getElem?_getD,List.getElem?_eq_none (by omega)]
  exact ⟨U2,U2,U2,U2,U2,fun f hf=>by simp at hf⟩
theorem S9.fld {h:Hp} (hn:S9 h) (i j:Nat):F64 (gI (Eng.ob h.AD i).field j):=pY U2 (hn.ob i).2.2.2.2.2 j
theorem S9.bf {h:Hp} (hn:S9 h) (i:Nat):F64 (gI h.buffer i):=pY U2 hn.buf i
theorem rD {l:List AG} (hl:(l.length:Int)≤1048576) (hf: ∀o∈l,(o.field.length:Int)≤1048576) (s:Int):0≤inE l s∧inE l s≤2^40:=by
 rw [inE];split
 ·have he:=OI (l:=l) (id:=CC s (ob l s.toNat).gen) (b:=1048576) fun o ho=>by have:=hf o ho;omega
  have hmul:l.length*1048576≤1048576*1048576:=Nat.mul_le_mul_right _ (by omega)
  omega
 ·omega
end Go.Proofs.Ytklmcfpgdfibnaa.P
