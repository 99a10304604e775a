/- A part of the proof. -/
import Derived.Test.YtklmcfpgdfibnaaWaLawTyNode
import Derived.Test.YtklmcfpgdfibnaaWaRowT
import Derived.Test.YtklmcfpgdfibnaaWaTxtB
namespace Go.Proofs.Ytklmcfpgdfibnaa.P
open Go Go.Proofs.Ytklmcfpgdfibnaa Go.Proofs.Ytklmcfpgdfibnaa.Eng
set_option maxHeartbeats 4000000
set_option linter.unusedVariables false
set_option linter.unusedSimpArgs false
attribute [local irreducible] prP gP gE gF AX ixW ldc ldg ldl stc stg scW mkW apW BE cl2 BK C2 CI
variable {w0:World}
structure Gr where
 nodes:List Nd
 B2:List Wk
 sites:List ByteArray
def w7 (o:AE):Nd:=⟨o.live,o.gen,o.site,o.holds,o.roots,o.field⟩
def wC (h:Hp):Gr:=⟨h.AB.map w7,h.B2,h.sites⟩
theorem wG {l:List AE} {P:AE→Prop} (h: ∀o∈l,P o) {i:Nat} (hi:i<l.length):P (ob l i):=by rw [←DC hi];exact h _ (List.getElem_mem hi)
def s5 (g:Gr):Int:=szL dP g.nodes+szL TO g.B2+g.sites.length
structure TA (g:Gr):Prop where
 nl:(g.nodes.length:Int)≤1048576
 nf: ∀o∈g.nodes,(o.field.length:Int)≤1048576
 wl:(g.B2.length:Int)≤1048576
 sl:(g.sites.length:Int)≤1048576
theorem TA.of {h:Hp} (hf:Fits h):TA (wC h):=by
 refine ⟨?_, ?_,hf.wl,hf.sl⟩
 ·simp only [wC,List.length_map];exact hf.ol
 ·intro o ho
  obtain ⟨x,hx,rfl⟩:=List.mem_map.1 ho
  exact hf.of x hx
theorem TA.nodes {g:Gr} (hf:TA g):0≤szL dP g.nodes∧szL dP g.nodes≤2^41:=by
 refine ⟨RW nC _, ?_⟩
 have h1:=U4 (sz:=dP) (b:=1048581) (l:=g.nodes) fun o ho=>by have:=hf.nf o ho;unfold dP;omega
 have h2:=hf.nl
 have h3:(g.nodes.length:Int)*1048581≤1048576*1048581:=Int.mul_le_mul_of_nonneg_right h2 (by omega)
 omega
theorem TA.B2 {g:Gr} (hf:TA g):0≤szL TO g.B2∧szL TO g.B2≤2^41:=by
 refine ⟨RW aO _, ?_⟩
 have h1:=U4 (sz:=TO) (b:=2) (l:=g.B2) fun o ho=>by unfold TO;omega
 have h2:=hf.wl
 omega
theorem TA.sz {g:Gr} (hf:TA g):0≤s5 g∧s5 g≤2^43:=by
 have h1:=hf.nodes;have h2:=hf.B2;have h4:=hf.sl
 unfold s5;omega
end Go.Proofs.Ytklmcfpgdfibnaa.P
namespace Go.Proofs.Ytklmcfpgdfibnaa.P
open Go Go.Proofs.Ytklmcfpgdfibnaa Go.Proofs.Ytklmcfpgdfibnaa.Eng
set_option maxHeartbeats 4000000
set_option linter.unusedVariables false
set_option linter.unusedSimpArgs false
attribute [local irreducible] prP gP gE gF AX ixW ldc ldg ldl stc stg scW mkW apW BE cl2 BK C2 CI
variable {w0:World}
def KW (id:Int) (o:AE):Nat:=if o.live=true then o.field.count id else 0
def CD (l:List AE) (id:Int):Nat:=(l.map (KW id)).sum
def inE (l:List AE) (s:Int):Int:=if (0≤s∧s≤l.length-1)∧(ob l s.toNat).live=true then CD l (B6 s (ob l s.toNat).gen) else 0
theorem eG {l:List AE} {i:Nat} {id:Int} (hi:i<l.length):CD (l.take (i+1)) id=CD (l.take i) id+KW id (ob l i):=by
 rw [CD,List.take_succ_eq_append_getElem hi,List.map_append,List.sum_append,DC hi];simp [CD]
theorem cT {l:List Int} {j:Nat} {id:Int} (hj:j<l.length):(l.take (j+1)).count id=(l.take j).count id+if gI l j=id then 1 else 0:=by
 rw [List.take_succ_eq_append_getElem hj,List.count_append,DB hj,List.count_singleton]
 simp
theorem oQ (id:Int) (o:AE):KW id o≤o.field.length:=by
 unfold KW;split
 ·exact List.count_le_length
 ·exact Nat.zero_le _
theorem OQ {l:List AE} {id:Int} {b:Nat} (h: ∀o∈l,o.field.length≤b):CD l id≤l.length*b:=by
 induction l with
 | nil=>simp [CD]
 | cons o l ih=>
   have h1:=ih fun x hx=>h x (by simp [hx])
   have h2:=oQ id o
   have h3:=h o (by simp)
   simp only [CD,List.map_cons,List.sum_cons,List.length_cons,Nat.add_mul,Nat.one_mul] at h1 ⊢
   omega
theorem nH {l:List AE} (hf: ∀o∈l,(o.field.length:Int)≤1048576) (i:Nat):((ob l i).field.length:Int)≤1048576:=by
 by_cases hi:i<l.length
 ·rw [←DC hi];exact hf _ (List.getElem_mem hi)
 ·unfold ob;rw [List.getD_eq_getElem?_getD,List.getElem?_eq_none (by omega)];simp
theorem OB {a:List AE} {b c d:List T} {s:Int} {K:J2} (hs:F64 s) (hl:(a.length:Int)≤1048576) (hf: ∀o∈a,(o.field.length:Int)≤1048576) (h:K [I (inE a s)] []):cl2 ⟨Try.prog,w0⟩ 88 DN.sg [I s] [tR tO a,b,c,d] K:=by
 obtain ⟨s1,s2⟩:=hs
 refine DN.cl2 ?_
 unfold DN.txt
 simp only [AI,AU,AL,AR,AQ,AG,AJ,AK,AO,AP,AN,AT,AS,AM,BH,BP,BS,BM,BQ,BN,BL,A6,A5,A4,A7,A8,A9]
 repeat' (first | refine DI ?_ | refine GK ?_ | refine BO ?_ | refine IK (by first | with_reducible assumption | omega) ?_ | refine DU (by first | with_reducible assumption | omega) ?_ | refine D9 (by first | with_reducible assumption | omega) rfl ?_ | refine EC (by first | with_reducible assumption | omega) rfl ?_ | refine CL ?_ | refine FW ?_ | refine G5 ⟨by omega,by omega⟩ ?_ | refine S8 (by omega) (by omega) ?_ | refine JG (by omega) (by decide) rfl ?_ | refine KJ (by omega) rfl ?_ | refine MP (fun _=> ?_) (fun _=> ?_) | refine R7 (fun _=> ?_) (fun _=> ?_) | refine CN ?_ | simp only [AI,AU,AL,AR,AQ,AG,AJ,AK,AO,AP,AN,AT,AS,AM,BH,BP,BS,BM,BQ,BN,BL,A6,A5,A4,A7,A8,A9])
 ·rw [inE,if_neg (by simp_all)] at h;exact h
 ·rename_i hin hlv
  have hin:0≤s∧s≤(a.length:Int)-1:=Decidable.not_not.1 hin
  rw [inE,if_pos ⟨hin,by simpa using hlv⟩] at h
  generalize B6 s (ob a s.toNat).gen=id at h ⊢
  refine BJ (fun i=>[I (CD (a.take i) id),I id,iv i]) (fun _=>[]) a.length (fun _=>True) rfl rfl trivial (fun R i hi _ hR=> ?_)
  have he:=OQ (l:=a.take i) (id:=id) (b:=1048576) fun o ho=>by have:=hf o (List.mem_of_mem_take ho);omega
  have hln:(a.take i).length≤a.length:=by simp;omega
  have hmul:(a.take i).length*1048576≤1048576*1048576:=Nat.mul_le_mul_right _ (by omega)
  have hfo:=nH hf i
  simp only [AI,AU,AL,AR,AQ,AG,AJ,AK,AO,AP,AN,AT,AS,AM,BH,BP,BS,BM,BQ,BN,BL,A6,A5,A4,A7,A8,A9]
  refine BA (AZ (fun hlt=> ?_) fun hge=> ?_)
  ·have hlt:i<a.length:=by omega
   replace hR:=hR hlt trivial
   rw [eG hlt,KW] at hR
   refine BJ (fun j=>[I ((CD (a.take i) id+(if (ob a i).live=true then ((ob a i).field.take j).count id else 0):Nat):Int),I id,iv i,iv j]) (fun _=>[]) (ob a i).field.length (fun _=>True) (by simp only [List.take_zero,List.count_nil,ite_self,Nat.add_zero];rfl) rfl trivial (fun R2 j hj _ hR2=> ?_)
   have hc:((ob a i).field.take j).count id≤j:=Nat.le_trans List.count_le_length (by simp;omega)
   refine AH hlt (QE hlt ?_)
   rw [HF hlt,AG]
   by_cases hv:(ob a i).live=true
   ·simp only [if_pos hv] at hR hR2 ⊢
    refine BA (BO (BO (BO (LP (fun hlt2=> ?_) fun hge2=> ?_))))
    ·have hlt2':j<(ob a i).field.length:=by
      have:(j:Int)<((ob a i).field.length:Int):=hlt2
      omega
     replace hR2:=hR2 hlt2' trivial
     rw [cT hlt2'] at hR2
     refine AH hlt (BO (IA hlt2 (KJ hlt rfl (D9 hlt2 rfl (fA hv (BY (AH hlt (QE hlt ?_))))))))
     rw [HF hlt,AG]
     refine AH hlt2' (JE hlt hlt2' (B1 (AZ (fun he=> ?_) fun he=> ?_)))
     ·rw [if_pos he] at hR2
      exact FR ⟨by omega,by omega⟩ (BB (by omega) hR2)
     ·rw [if_neg he] at hR2
      exact BB (by omega) hR2
    ·have:j=(ob a i).field.length:=by
      have: ¬(j:Int)<((ob a i).field.length:Int):=hge2
      omega
     subst this
     rw [List.take_length] at hc ⊢
     exact BO (K3 hge2 (EC hge2 rfl (CE (BB (by omega) hR))))
   ·have hv:(ob a i).live=false:=by simpa using hv
    simp only [hv,Bool.false_eq_true,if_false] at hR hR2 ⊢
    refine BA (BO (BO (BO (LP (fun hlt2=> ?_) fun hge2=> ?_))))
    ·exact AH hlt (BO (IA hlt2 (KJ hlt (v:= .bool false) (by rw [←hv];rfl) (D9 hlt2 rfl (CE (BB (by omega) hR))))))
    ·exact BO (K3 hge2 (EC hge2 rfl (CE (BB (by omega) hR))))
  ·have:i=a.length:=by omega
   subst this
   rw [List.take_length];exact h
 ·rw [inE,if_neg (by rintro ⟨h1,h2⟩;simp_all)] at h;exact h
theorem jQ {l:List Int} {i:Nat} {x:Int} (hi:i<l.length) (h:x∉l.take i) (hn:gI l i≠x):x∉l.take (i+1):=by
 rw [List.take_succ_eq_append_getElem hi,DB hi]
 simp only [List.mem_append,List.mem_singleton,not_or]
 exact ⟨h,fun he=>hn he.symm⟩
theorem C7 {l:List Int} {i:Nat} (h:i<l.length):gI l i∈l:=by rw [←DB h];exact List.getElem_mem h
theorem GN {l:List Int} {x:Int} {K:J2} (hl:(l.length:Int)<2^62) (h:K [.bool (decide (x∈l))] []):cl2 ⟨Try.prog,w0⟩ 89 CA.sg [I x] [tI l] K:=by
 refine CA.cl2 ?_
 unfold CA.txt
 simp only [AI,AU,AL,AR,AQ,AG,AJ,AK,AO,AP,AN,AT,AS,AM,BH,BP,BS,BM,BQ,BN,BL,A6,A5,A4,A7,A8,A9]
 refine BJ (fun i=>[I x,iv i]) (fun _=>[]) l.length (fun i=>x∉l.take i) rfl rfl (by simp) (fun R i hi hP hR=> ?_)
 refine BA (AZ (fun hlt=> ?_) fun hge=> ?_)
 ·have hlt:i<l.length:=by omega
  refine AH hlt (ldI hlt (B1 (AZ (fun he=> ?_) fun he=> ?_)))
  ·rw [decide_eq_true (he ▸ C7 hlt)] at h;exact h
  ·exact BB (by omega) (hR hlt (jQ hlt hP he))
 ·have:i=l.length:=by omega
  subst this
  rw [List.take_length] at hP
  rw [decide_eq_false hP] at h;exact h
attribute [irreducible] inE CD
end Go.Proofs.Ytklmcfpgdfibnaa.P
namespace Go.Proofs.Ytklmcfpgdfibnaa.P
open Go Go.Proofs.Ytklmcfpgdfibnaa Go.Proofs.Ytklmcfpgdfibnaa.Eng
set_option linter.unusedVariables false
def inB (n lo hi:Int):Bool:=decide (n≥lo)&&decide (n≤hi)
def NX (n:Int):Bool:=inB n (-1000000000) 1000000000
def sN (a b c d:Int) (s:ByteArray):Bool:=(((NX a&&NX b)&&NX c)&&NX d)&&decide ((s.size:Int)≤8)
def wR (c v:Int) (l:List Int):Bool:=(inB c 0 6&&NX v&&decide (l.length≤8))&&l.all NX
end Go.Proofs.Ytklmcfpgdfibnaa.P
namespace Go.Proofs.Ytklmcfpgdfibnaa.P
open Go Go.Proofs.Ytklmcfpgdfibnaa Go.Proofs.Ytklmcfpgdfibnaa.Eng
set_option linter.unusedVariables false
def L7 (l:List Nat):ByteArray:=l.foldl (fun b n=>b.push (UInt8.ofNat n)) ByteArray.empty
theorem bL (l:List Nat):(L7 l).size=l.length:=by
 have: ∀(l:List Nat) (b:ByteArray),(l.foldl (fun b n=>b.push (UInt8.ofNat n)) b).size=b.size+l.length:=by
  intro l
  induction l with
  | nil=>intro b;rfl
  | cons a l ih=>intro b;rw [List.foldl_cons,ih,ByteArray.size_push,List.length_cons];omega
 rw [L7,this];simp
def vd:Nat→Nat→List Nat
 | 0,n=>[n]
 | k+1,n=>if n≥128 then (128+n % 128)::vd k (n/128) else [n]
theorem mR: ∀k n,(vd k n).length≤k+1
 | 0,n=>by simp [vd]
 | k+1,n=>by
   unfold vd;split
   ·have:=mR k (n/128);simp only [List.length_cons];omega
   ·simp
def V (n:Int):ByteArray:=if inB n 0 562949953421311 then L7 (vd 6 n.toNat) else ⟨#[]⟩
theorem P9 (n:Int):(V n).size≤7:=by
 unfold V;split
 ·rw [bL];exact mR 6 _
 ·exact Nat.zero_le _
attribute [irreducible] V
end Go.Proofs.Ytklmcfpgdfibnaa.P
namespace Go.Proofs.Ytklmcfpgdfibnaa.P
open Go Go.Proofs.Ytklmcfpgdfibnaa Go.Proofs.Ytklmcfpgdfibnaa.Eng
set_option linter.unusedVariables false
def zg (n:Int):Int:=if inB n (-100000000000000) 100000000000000 then (if n<0 then -2*n-1 else 2*n) else -1
theorem gJ {n lo hi:Int}:inB n lo hi=true↔lo≤n∧n≤hi:=by simp [inB]
def SI (n:Int):ByteArray:=V (zg n)
def ST (s:ByteArray):ByteArray:=if (s.size:Int)>8 then ⟨#[]⟩ else V s.size++s
theorem oF (s:ByteArray):(ST s).size≤15:=by
 unfold ST;split
 ·exact Nat.zero_le _
 ·have:=P9 s.size
  rw [ByteArray.size_append];omega
instance :LawfulBEq ByteArray where
 eq_of_beq {a b} h:=by
  cases a;cases b
  have h:_==_:=h
  first | exact congrArg _ (eq_of_beq h) | (simp [BEq.beq,instBEqByteArray.beq] at h;simpa using h) | (simp_all)
 rfl {a}:=by
  cases a
  first | exact beq_self_eq_true (α:=Array UInt8) _ | (show ByteArray.beq _ _=true;unfold ByteArray.beq;simp) | (simp [BEq.beq,ByteArray.beq])
def at_ (l:List ByteArray) (s:ByteArray):Int:=if s∈l then (l.idxOf s:Int) else -1
end Go.Proofs.Ytklmcfpgdfibnaa.P
namespace Go.Proofs.Ytklmcfpgdfibnaa.P
open Go Go.Proofs.Ytklmcfpgdfibnaa Go.Proofs.Ytklmcfpgdfibnaa.Eng
set_option linter.unusedVariables false
def szB (s:ByteArray):Bool:=decide ((s.size:Int)≤8)
def wO (l:List ByteArray):Bool:=l.all szB&&decide l.Nodup
def wP (n:Int) (l:List ByteArray):Bool:=(NX n&&decide (l.length≤400))&&wO l
theorem cZ {n i:Nat} (hi:i≤n) {K:Value→Value→Prop} (h:K (iv 0) (iv i)):scW n none (some (iv i)) K:=
 ⟨0,i,rfl,by simp [bnd,iv],Nat.zero_le _,hi,h⟩
def mZ (l:List ByteArray) (s:ByteArray):ByteArray:=if s∈l then V (at_ l s+1) else V 0++ST s
def vE (l:List ByteArray) (s:ByteArray):List ByteArray:=if s∈l then l else l++[s]
end Go.Proofs.Ytklmcfpgdfibnaa.P
namespace Go.Proofs.Ytklmcfpgdfibnaa.P
open Go Go.Proofs.Ytklmcfpgdfibnaa Go.Proofs.Ytklmcfpgdfibnaa.Eng
set_option maxHeartbeats 4000000
set_option linter.unusedVariables false
set_option linter.unusedSimpArgs false
attribute [local irreducible] prP gP gE gF AX ixW ldc ldg ldl stc stg scW mkW apW BE cl2 BK C2 CI
variable {w0:World}
theorem o6 {a:List AE} {i:Nat} (hi:i<a.length):tR tO (a.take i)++[T.c (.bool (ob a i).live), .c (I (ob a i).gen), .c (I (ob a i).site), .c (I (ob a i).holds), .c (I (ob a i).roots), .c (I (ob a i).count), .l 1 (tI (ob a i).field), .c (.bool (ob a i).purple)]=tR tO (a.take (i+1)):=by
 rw [List.take_succ_eq_append_getElem hi,DC hi]
 exact o4 _ (ob a i)
theorem JR {h:Hp} {K:J2} (hf:Fits h) (hk:K [] (trees h)):cl2 ⟨Try.prog,w0⟩ 122 CX.sg [] (trees h) K:=by
 obtain ⟨a,b,c,d⟩:=h
 have g1:=hf.ol;have g2:=hf.wl;have g3:=hf.sl;have g4:=hf.bl
 simp only at g1 g2 g3 g4
 refine CX.cl2 ?_
 unfold CX.txt
 simp only [AI,AU,AL,AR,AQ,AG,AJ,AK,AO,AP,AN,AT,AS,AM,BH,BP,BS,BM,BQ,BN,BL,A6,A5,A4,A7,A8,A9]
 refine DW (YY _) (by simp only [cnt,List.length_nil];omega) (DW (JT _) (by omega) (DW (ZP _) (by omega) ?_))
 refine BJ (fun i=>[iv i]) (fun i=>[tR tO (a.take i),tR tW b,tI c,tS d]) a.length (fun _=>True) rfl rfl trivial (fun R i hi hP hR=> ?_)
 simp only [AI,AU,AL,AR,AQ,AG,AJ,AK,AO,AP,AN,AT,AS,AM,BH,BP,BS,BM,BQ,BN,BL,A6,A5,A4,A7,A8,A9]
 refine BA (AZ (fun hlt=> ?_) fun hge=> ?_)
 ·have hlt:i<a.length:=by omega
  have hfo:((ob a i).field.length:Int)≤1048576:=wG (l:=a) hf.of hlt
  have hln:(a.take i).length=i:=by simp;omega
  replace hR:=hR hlt trivial
  refine AH hlt (V9 hlt ?_)
  rw [HF hlt]
  refine DW (JT _) (by first | omega | (simp only [AI,AU,AL,AR,AQ,AG,AJ,AK,AO,AP,AN,AT,AS,AM,BH,BP,BS,BM,BQ,BN,BL,A6,A5,A4,A7,A8,A9];omega)) (rF (by rw [hln];omega) (BB (by omega) ?_))
  rw [←o6 hlt] at hR
  exact hR
 ·have:i=a.length:=by omega
  subst this
  rw [List.take_length];exact hk
structure LY (l:List ByteArray):Prop where
 len:l.length≤6
 sz: ∀i,i<l.length→1≤((gS l i).size:Int)∧((gS l i).size:Int)≤8
 one: ∀i,i<l.length→gS l i∉l.take i
theorem eM {l:List ByteArray} {i:Nat} {x:ByteArray} (hi:i<l.length) (h:x∉l.take i) (hn:gS l i≠x):x∉l.take (i+1):=by
 rw [List.take_succ_eq_append_getElem hi,RM hi]
 simp only [List.mem_append,List.mem_singleton,not_or]
 exact ⟨h,fun he=>hn he.symm⟩
structure TC (h:Hp) (i:Nat):Prop where
 gen:0≤(ob h.AB i).gen∧(ob h.AB i).gen≤999
 len:(ob h.AB i).field.length=3
 lead: ∀j,j<3→gI (ob h.AB i).field j≠ -1→(ob h.AB i).live=true∧0≤AA h.AB (gI (ob h.AB i).field j)
 dead:(ob h.AB i).live=false→(ob h.AB i).site=0∧(ob h.AB i).holds=0∧(ob h.AB i).roots=0∧(ob h.AB i).count=0∧(ob h.AB i).purple=false
 lv:(ob h.AB i).live=true→1≤(ob h.AB i).gen∧(0≤(ob h.AB i).site∧(ob h.AB i).site≤(h.sites.length:Int)-1)∧(0≤(ob h.AB i).holds∧(ob h.AB i).holds≤20)∧(0≤(ob h.AB i).roots∧(ob h.AB i).roots≤20)∧
  (ob h.AB i).count=(ob h.AB i).holds+(ob h.AB i).roots+inE h.AB i∧1≤(ob h.AB i).count∧(ob h.AB i).purple=decide (B6 i (ob h.AB i).gen∈h.buffer)
structure BW (h:Hp):Prop where
 ol:h.AB.length=8
 wl:h.B2.length=8
 sites:LY h.sites
 obj: ∀i,i<8→TC h i
 weak: ∀i,i<8→((wk h.B2 i).used=false→(wk h.B2 i).target=0)∧((wk h.B2 i).used=true→8≤(wk h.B2 i).target∧(wk h.B2 i).target≤7999)
 buf: ∀i,i<h.buffer.length→0≤AA h.AB (gI h.buffer i)∧gI h.buffer i∉h.buffer.take i
theorem rP {l:List Int} {P:Int→Prop} (h0:P 0) (h: ∀x∈l,P x) (i:Nat):P (gI l i):=by
 by_cases hi:i<l.length
 ·rw [←DB hi];exact h _ (List.getElem_mem hi)
 ·unfold gI;rw [List.getD_eq_getElem?_getD,List.getElem?_eq_none (by omega)];exact h0
theorem UK:F64 0:=⟨by omega,by omega⟩
theorem TL.ob {h:Hp} (hn:TL h) (i:Nat):F64 (ob h.AB i).gen∧F64 (ob h.AB i).site∧F64 (ob h.AB i).holds∧F64 (ob h.AB i).roots∧F64 (ob h.AB i).count∧ ∀f∈(ob h.AB i).field,F64 f:=by
 by_cases hi:i<h.AB.length
 ·rw [←DC hi];exact hn.obj _ (List.getElem_mem hi)
 ·unfold Eng.ob;rw [List.getD_eq_getElem?_getD,List.getElem?_eq_none (by omega)]
  exact ⟨UK,UK,UK,UK,UK,fun f hf=>by simp at hf⟩
theorem TL.fld {h:Hp} (hn:TL h) (i j:Nat):F64 (gI (Eng.ob h.AB i).field j):=rP UK (hn.ob i).2.2.2.2.2 j
theorem TL.bf {h:Hp} (hn:TL h) (i:Nat):F64 (gI h.buffer i):=rP UK hn.buf i
theorem uN {l:List AE} (hl:(l.length:Int)≤1048576) (hf: ∀o∈l,(o.field.length:Int)≤1048576) (s:Int):0≤inE l s∧inE l s≤2^40:=by
 rw [inE];split
 ·have he:=OQ (l:=l) (id:=B6 s (ob l s.toNat).gen) (b:=1048576) fun o ho=>by have:=hf o ho;omega
  have hmul:l.length*1048576≤1048576*1048576:=Nat.mul_le_mul_right _ (by omega)
  omega
 ·omega
end Go.Proofs.Ytklmcfpgdfibnaa.P
