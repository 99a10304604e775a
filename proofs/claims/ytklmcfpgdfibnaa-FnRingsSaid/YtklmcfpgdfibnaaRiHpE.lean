/- A part of the proof. -/
import Derived.Test.YtklmcfpgdfibnaaRiLawTyNode
import Derived.Test.YtklmcfpgdfibnaaRiRowT
import Derived.Test.YtklmcfpgdfibnaaRiTxtB
namespace Go.Proofs.Ytklmcfpgdfibnaa.P
open Go Go.Proofs.Ytklmcfpgdfibnaa Go.Proofs.Ytklmcfpgdfibnaa.Eng
set_option maxHeartbeats 4000000
set_option linter.unusedVariables false
set_option linter.unusedSimpArgs false
attribute [local irreducible] prP gP gE gF AW ixW ldc ldg ldl stc stg scW mkW apW AZ cl2 BJ CH B2
variable {w0:World}
structure Gr where
 nodes:List Nd
 CB:List Wk
 sites:List ByteArray
def aP (o:AE):Nd:=⟨o.live,o.gen,o.site,o.holds,o.roots,o.field⟩
def w4 (h:Hp):Gr:=⟨h.AB.map aP,h.CB,h.sites⟩
theorem GV {l:List Int} {K:J2} (hl:(l.length:Int)≤2^40) (h:K [] [tI l]):cl2 ⟨Try.prog,w0⟩ 141 CG.sg [] [tI l] K:=by
 refine CG.cl2 ?_
 unfold CG.txt
 simp only [AJ,AO,AS,AN,AQ,AG,AK,AI,AR,AT,AU,AM,AL,AP,BP,BU,BW,BT,BV,BS,BQ,AY,A6,A7,A4,A5,A8]
 refine GH (TT l) (by omega) ?_
 rw [List.nil_append];exact h
theorem R1 {l:List ByteArray} {K:J2} (hl:(l.length:Int)≤2^40) (h:K [] [tS l]):cl2 ⟨Try.prog,w0⟩ 142 DU.sg [] [tS l] K:=by
 refine DU.cl2 ?_
 unfold DU.txt
 simp only [AJ,AO,AS,AN,AQ,AG,AK,AI,AR,AT,AU,AM,AL,AP,BP,BU,BW,BT,BV,BS,BQ,AY,A6,A7,A4,A5,A8]
 refine GH (X1 l) (by omega) ?_
 rw [List.nil_append];exact h
theorem xC {l:List AE} {P:AE→Prop} (h: ∀o∈l,P o) {i:Nat} (hi:i<l.length):P (ob l i):=by rw [←DQ hi];exact h _ (List.getElem_mem hi)
def vZ (g:Gr):Int:=szL eC g.nodes+szL S9 g.CB+g.sites.length
structure SX (g:Gr):Prop where
 nl:(g.nodes.length:Int)≤1048576
 nf: ∀o∈g.nodes,(o.field.length:Int)≤1048576
 wl:(g.CB.length:Int)≤1048576
 sl:(g.sites.length:Int)≤1048576
theorem SX.of {h:Hp} (hf:Fits h):SX (w4 h):=by
 refine ⟨?_, ?_,hf.wl,hf.sl⟩
 ·simp only [w4,List.length_map];exact hf.ol
 ·intro o ho
  obtain ⟨x,hx,rfl⟩:=List.mem_map.1 ho
  exact hf.of x hx
theorem SX.nodes {g:Gr} (hf:SX g):0≤szL eC g.nodes∧szL eC g.nodes≤2^41:=by
 refine ⟨Q2 mL _, ?_⟩
 have h1:=UU (sz:=eC) (b:=1048581) (l:=g.nodes) fun o ho=>by have:=hf.nf o ho;unfold eC;omega
 have h2:=hf.nl
 have h3:(g.nodes.length:Int)*1048581≤1048576*1048581:=Int.mul_le_mul_of_nonneg_right h2 (by omega)
 omega
theorem SX.CB {g:Gr} (hf:SX g):0≤szL S9 g.CB∧szL S9 g.CB≤2^41:=by
 refine ⟨Q2 bW _, ?_⟩
 have h1:=UU (sz:=S9) (b:=2) (l:=g.CB) fun o ho=>by unfold S9;omega
 have h2:=hf.wl
 omega
theorem SX.sz {g:Gr} (hf:SX g):0≤vZ g∧vZ g≤2^43:=by
 have h1:=hf.nodes;have h2:=hf.CB;have h4:=hf.sl
 unfold vZ;omega
end Go.Proofs.Ytklmcfpgdfibnaa.P
namespace Go.Proofs.Ytklmcfpgdfibnaa.P
open Go Go.Proofs.Ytklmcfpgdfibnaa Go.Proofs.Ytklmcfpgdfibnaa.Eng
set_option maxHeartbeats 4000000
set_option linter.unusedVariables false
set_option linter.unusedSimpArgs false
attribute [local irreducible] prP gP gE gF AW ixW ldc ldg ldl stc stg scW mkW apW AZ cl2 BJ CH B2
variable {w0:World}
def NA (id:Int) (o:AE):Nat:=if o.live=true then o.field.count id else 0
def CD (l:List AE) (id:Int):Nat:=(l.map (NA id)).sum
def inE (l:List AE) (s:Int):Int:=if (0≤s∧s≤l.length-1)∧(ob l s.toNat).live=true then CD l (B6 s (ob l s.toNat).gen) else 0
theorem e6 {l:List AE} {i:Nat} {id:Int} (hi:i<l.length):CD (l.take (i+1)) id=CD (l.take i) id+NA id (ob l i):=by
 rw [CD,List.take_succ_eq_append_getElem hi,List.map_append,List.sum_append,DQ hi];simp [CD]
theorem dM {l:List Int} {j:Nat} {id:Int} (hj:j<l.length):(l.take (j+1)).count id=(l.take j).count id+if gI l j=id then 1 else 0:=by
 rw [List.take_succ_eq_append_getElem hj,List.count_append,DE hj,List.count_singleton]
 simp
theorem qF (id:Int) (o:AE):NA id o≤o.field.length:=by
 unfold NA;split
 ·exact List.count_le_length
 ·exact Nat.zero_le _
theorem OL {l:List AE} {id:Int} {b:Nat} (h: ∀o∈l,o.field.length≤b):CD l id≤l.length*b:=by
 induction l with
 | nil=>simp [CD]
 | cons o l ih=>
   have h1:=ih fun x hx=>h x (by simp [hx])
   have h2:=qF id o
   have h3:=h o (by simp)
   simp only [CD,List.map_cons,List.sum_cons,List.length_cons,Nat.add_mul,Nat.one_mul] at h1 ⊢
   omega
theorem oV {l:List AE} (hf: ∀o∈l,(o.field.length:Int)≤1048576) (i:Nat):((ob l i).field.length:Int)≤1048576:=by
 by_cases hi:i<l.length
 ·rw [←DQ hi];exact hf _ (List.getElem_mem hi)
 ·unfold ob;rw [List.getD_eq_getElem?_getD,List.getElem?_eq_none (by omega)];simp
theorem NT {a:List AE} {b c d:List T} {s:Int} {K:J2} (hs:F64 s) (hl:(a.length:Int)≤1048576) (hf: ∀o∈a,(o.field.length:Int)≤1048576) (h:K [I (inE a s)] []):cl2 ⟨Try.prog,w0⟩ 100 DW.sg [I s] [tR tO a,b,c,d] K:=by
 obtain ⟨s1,s2⟩:=hs
 refine DW.cl2 ?_
 unfold DW.txt
 simp only [AJ,AO,AS,AN,AQ,AG,AK,AI,AR,AT,AU,AM,AL,AP,BP,BU,BW,BT,BV,BS,BQ,AY,A6,A7,A4,A5,A8]
 repeat' (first | refine FG ?_ | refine FO ?_ | refine B9 ?_ | refine J6 (by first | with_reducible assumption | omega) ?_ | refine D9 (by first | with_reducible assumption | omega) ?_ | refine HR (by first | with_reducible assumption | omega) rfl ?_ | refine F8 (by first | with_reducible assumption | omega) rfl ?_ | refine CV ?_ | refine HZ ?_ | refine YW ⟨by omega,by omega⟩ ?_ | refine gK (by omega) (by omega) ?_ | refine JX (by omega) (by decide) rfl ?_ | refine fL (by omega) rfl ?_ | refine S3 (fun _=> ?_) (fun _=> ?_) | refine YQ (fun _=> ?_) (fun _=> ?_) | refine DR ?_ | simp only [AJ,AO,AS,AN,AQ,AG,AK,AI,AR,AT,AU,AM,AL,AP,BP,BU,BW,BT,BV,BS,BQ,AY,A6,A7,A4,A5,A8])
 ·rw [inE,if_neg (by simp_all)] at h;exact h
 ·rename_i hin hlv
  have hin:0≤s∧s≤(a.length:Int)-1:=Decidable.not_not.1 hin
  rw [inE,if_pos ⟨hin,by simpa using hlv⟩] at h
  generalize B6 s (ob a s.toNat).gen=id at h ⊢
  refine BL (fun i=>[I id,I (CD (a.take i) id),iv a.length,iv i]) (fun _=>[]) a.length (fun _=>True) rfl rfl trivial (fun R i hi _ hR=> ?_)
  have he:=OL (l:=a.take i) (id:=id) (b:=1048576) fun o ho=>by have:=hf o (List.mem_of_mem_take ho);omega
  have hln:(a.take i).length≤a.length:=by simp;omega
  have hmul:(a.take i).length*1048576≤1048576*1048576:=Nat.mul_le_mul_right _ (by omega)
  have hfo:=oV hf i
  simp only [AJ,AO,AS,AN,AQ,AG,AK,AI,AR,AT,AU,AM,AL,AP,BP,BU,BW,BT,BV,BS,BQ,AY,A6,A7,A4,A5,A8]
  refine BE (BB (fun hlt=> ?_) fun hge=> ?_)
  ·have hlt:i<a.length:=by omega
   replace hR:=hR hlt trivial
   rw [e6 hlt,NA] at hR
   refine BF hlt (OT hlt ?_)
   rw [MW hlt,AG]
   refine BL (fun j=>[I id,I ((CD (a.take i) id+(if (ob a i).live=true then ((ob a i).field.take j).count id else 0):Nat):Int),iv a.length,iv i,iv (AD (iv i)*8+6),iv (ob a i).field.length,iv j, .bool (ob a i).live,I (ob a i).gen,I (ob a i).site,I (ob a i).holds,I (ob a i).roots,I (ob a i).count,iv (AD (iv i)*8+6), .bool (ob a i).purple]) (fun _=>[]) (ob a i).field.length (fun _=>True) (by simp only [List.take_zero,List.count_nil,ite_self,Nat.add_zero];rfl) rfl trivial (fun R2 j hj _ hR2=> ?_)
   have hc:((ob a i).field.take j).count id≤j:=Nat.le_trans List.count_le_length (by simp;omega)
   simp only [AJ,AO,AS,AN,AQ,AG,AK,AI,AR,AT,AU,AM,AL,AP,BP,BU,BW,BT,BV,BS,BQ,AY,A6,A7,A4,A5,A8]
   refine BE (BB (fun hlt2=> ?_) fun hge2=> ?_)
   ·have hlt2:j<(ob a i).field.length:=by omega
    replace hR2:=hR2 hlt2 trivial
    rw [dM hlt2] at hR2
    rw [BA (AD (iv i)*8+6),MW hlt,AG]
    refine DB (BF hlt2 (VL hlt hlt2 (B9 (B9 ?_))))
    by_cases hv:(ob a i).live=true
    ·simp only [if_pos hv] at hR2 ⊢
     refine NX hv (CT (kJ hv rfl (BB (fun he=> ?_) fun he=> ?_)))
     ·rw [if_pos he] at hR2
      exact FZ ⟨by omega,by omega⟩ (A9 (by omega) hR2)
     ·rw [if_neg he] at hR2
      exact A9 (by omega) hR2
    ·have hv:(ob a i).live=false:=by simpa using hv
     simp only [hv,Bool.false_eq_true,if_false] at hR2 ⊢
     exact VZ (X8 rfl (C7 (A9 (by omega) hR2)))
   ·have:j=(ob a i).field.length:=by omega
    subst this
    rw [List.take_length] at hc ⊢
    exact A9 (by omega) hR
  ·have:i=a.length:=by omega
   subst this
   rw [List.take_length];exact h
 ·rw [inE,if_neg (by rintro ⟨h1,h2⟩;simp_all)] at h;exact h
theorem kR {l:List Int} {i:Nat} {x:Int} (hi:i<l.length) (h:x∉l.take i) (hn:gI l i≠x):x∉l.take (i+1):=by
 rw [List.take_succ_eq_append_getElem hi,DE hi]
 simp only [List.mem_append,List.mem_singleton,not_or]
 exact ⟨h,fun he=>hn he.symm⟩
theorem D6 {l:List Int} {i:Nat} (h:i<l.length):gI l i∈l:=by rw [←DE h];exact List.getElem_mem h
theorem FV {l:List Int} {x:Int} {K:J2} (hl:(l.length:Int)<2^62) (h:K [.bool (decide (x∈l))] []):cl2 ⟨Try.prog,w0⟩ 91 B8.sg [I x] [tI l] K:=by
 refine B8.cl2 ?_
 unfold B8.txt
 simp only [AJ,AO,AS,AN,AQ,AG,AK,AI,AR,AT,AU,AM,AL,AP,BP,BU,BW,BT,BV,BS,BQ,AY,A6,A7,A4,A5,A8]
 refine BL (fun i=>[I x,iv l.length,iv i]) (fun _=>[]) l.length (fun i=>x∉l.take i) rfl rfl (by simp) (fun R i hi hP hR=> ?_)
 refine BE (BB (fun hlt=> ?_) fun hge=> ?_)
 ·have hlt:i<l.length:=by omega
  refine BF hlt (ldI hlt (CT (BB (fun he=> ?_) fun he=> ?_)))
  ·rw [decide_eq_true (he ▸ D6 hlt)] at h;exact h
  ·exact A9 (by omega) (hR hlt (kR hlt hP he))
 ·have:i=l.length:=by omega
  subst this
  rw [List.take_length] at hP
  rw [decide_eq_false hP] at h;exact h
attribute [irreducible] inE CD
end Go.Proofs.Ytklmcfpgdfibnaa.P
namespace Go.Proofs.Ytklmcfpgdfibnaa.P
open Go Go.Proofs.Ytklmcfpgdfibnaa Go.Proofs.Ytklmcfpgdfibnaa.Eng
set_option linter.unusedVariables false
def inB (n lo hi:Int):Bool:=decide (n≥lo)&&decide (n≤hi)
def NS (n:Int):Bool:=inB n (-1000000000) 1000000000
def vF (a b c d:Int) (s:ByteArray):Bool:=(((NS a&&NS b)&&NS c)&&NS d)&&decide ((s.size:Int)≤8)
def wD (c v:Int) (l:List Int):Bool:=(inB c 0 6&&NS v&&decide (l.length≤8))&&l.all NS
end Go.Proofs.Ytklmcfpgdfibnaa.P
namespace Go.Proofs.Ytklmcfpgdfibnaa.P
open Go Go.Proofs.Ytklmcfpgdfibnaa Go.Proofs.Ytklmcfpgdfibnaa.Eng
set_option linter.unusedVariables false
def LQ (l:List Nat):ByteArray:=l.foldl (fun b n=>b.push (UInt8.ofNat n)) ByteArray.empty
theorem b6 (l:List Nat):(LQ l).size=l.length:=by
 have: ∀(l:List Nat) (b:ByteArray),(l.foldl (fun b n=>b.push (UInt8.ofNat n)) b).size=b.size+l.length:=by
  intro l
  induction l with
  | nil=>intro b;rfl
  | cons a l ih=>intro b;rw [List.foldl_cons,ih,ByteArray.size_push,List.length_cons];omega
 rw [LQ,this];simp
def vd:Nat→Nat→List Nat
 | 0,n=>[n]
 | k+1,n=>if n≥128 then (128+n % 128)::vd k (n/128) else [n]
theorem pA: ∀k n,(vd k n).length≤k+1
 | 0,n=>by simp [vd]
 | k+1,n=>by
   unfold vd;split
   ·have:=pA k (n/128);simp only [List.length_cons];omega
   ·simp
def V (n:Int):ByteArray:=if inB n 0 562949953421311 then LQ (vd 6 n.toNat) else ⟨#[]⟩
theorem P0 (n:Int):(V n).size≤7:=by
 unfold V;split
 ·rw [b6];exact pA 6 _
 ·exact Nat.zero_le _
attribute [irreducible] V
end Go.Proofs.Ytklmcfpgdfibnaa.P
namespace Go.Proofs.Ytklmcfpgdfibnaa.P
open Go Go.Proofs.Ytklmcfpgdfibnaa Go.Proofs.Ytklmcfpgdfibnaa.Eng
set_option linter.unusedVariables false
def zg (n:Int):Int:=if inB n (-100000000000000) 100000000000000 then (if n<0 then -2*n-1 else 2*n) else -1
theorem iU {n lo hi:Int}:inB n lo hi=true↔lo≤n∧n≤hi:=by simp [inB]
def SI (n:Int):ByteArray:=V (zg n)
def ST (s:ByteArray):ByteArray:=if (s.size:Int)>8 then ⟨#[]⟩ else V s.size++s
theorem qW (s:ByteArray):(ST s).size≤15:=by
 unfold ST;split
 ·exact Nat.zero_le _
 ·have:=P0 s.size
  rw [ByteArray.size_append];omega
theorem lG {a b:ByteArray} {p q:Prop} (h1:a=b→p) (h2:a≠b→q):AW (.bool (a.toList==b.toList)) p q:=
 YQ (fun h=>h1 (n8 (by simpa using h))) (fun h=>h2 (by rintro rfl;simp at h))
instance :LawfulBEq ByteArray where
 eq_of_beq {a b} h:=by
  cases a;cases b
  have h:_==_:=h
  first | exact congrArg _ (eq_of_beq h) | (simp [BEq.beq,instBEqByteArray.beq] at h;simpa using h) | (simp_all)
 rfl {a}:=by
  cases a
  first | exact beq_self_eq_true (α:=Array UInt8) _ | (show ByteArray.beq _ _=true;unfold ByteArray.beq;simp) | (simp [BEq.beq,ByteArray.beq])
def at_ (l:List ByteArray) (s:ByteArray):Int:=if s∈l then (l.idxOf s:Int) else -1
theorem eN {l:List ByteArray} {s:ByteArray} {i:Nat} (hi:i<l.length) (h1:s∉l.take i) (h2:l[i]≠s):s∉l.take (i+1):=by
 rw [List.take_succ_eq_append_getElem hi]
 simp only [List.mem_append,List.mem_singleton,not_or]
 exact ⟨h1,fun h=>h2 h.symm⟩
theorem rO {l:List ByteArray} {s:ByteArray} {i:Nat} (hi:i<l.length) (h1:s∉l.take i) (h2:l[i]=s):at_ l s=i:=by
 have hm:s∈l:=h2 ▸ List.getElem_mem hi
 rw [at_,if_pos hm]
 have e:l=l.take i++l[i]::l.drop (i+1):=by rw [←List.drop_eq_getElem_cons hi,List.take_append_drop]
 have hx:l.idxOf s=i:=by
  rw [e,List.idxOf_append,if_neg h1,h2,List.idxOf_cons_self]
  simp;omega
 rw [hx]
theorem PV {w0:World} {s:ByteArray} {l:List ByteArray} {K:J2} (hl:(l.length:Int)<2^62) (h:K [I (at_ l s)] []):cl2 ⟨Try.prog,w0⟩ 162 EK.sg [.string s] [tS l] K:=by
 refine EK.cl2 ?_
 unfold EK.txt
 simp only [AK]
 refine BL (fun i=>[.string s,iv l.length,iv i]) (fun _=>[]) l.length (fun i=>s∉l.take i) rfl rfl (by simp) (fun R i hi hP hR=> ?_)
 refine qQ (BB (fun hlt=> ?_) fun hge=> ?_)
 ·refine BF hlt (l5 hlt (bI (lG (fun he=> ?_) fun hne=> ?_)))
  ·rw [rO hlt hP he] at h;exact h
  ·exact A9 (by omega) (hR hlt (eN hlt hP hne))
 ·have:i=l.length:=by omega
  subst this
  rw [List.take_length] at hP
  rw [at_,if_neg hP] at h;exact h
theorem V4 {w0:World} {s:ByteArray} {l:List ByteArray} {K:J2} (hl:(l.length:Int)<2^62) (h:K [.bool (decide (s∈l))] []):cl2 ⟨Try.prog,w0⟩ 159 FJ.sg [.string s] [tS l] K:=by
 refine FJ.cl2 (PV hl (Q3 ?_))
 have:decide (at_ l s≥0)=decide (s∈l):=by
  by_cases hm:s∈l <;> simp [at_,hm]
 rw [this];exact h
end Go.Proofs.Ytklmcfpgdfibnaa.P
namespace Go.Proofs.Ytklmcfpgdfibnaa.P
open Go Go.Proofs.Ytklmcfpgdfibnaa Go.Proofs.Ytklmcfpgdfibnaa.Eng
set_option linter.unusedVariables false
def szB (s:ByteArray):Bool:=decide ((s.size:Int)≤8)
def yI (l:List ByteArray):Bool:=l.all szB&&decide l.Nodup
def wK (n:Int) (l:List ByteArray):Bool:=(NS n&&decide (l.length≤400))&&yI l
theorem oU {n i:Nat} (hi:i≤n) {K:Value→Value→Prop} (h:K (iv 0) (iv i)):scW n none (some (iv i)) K:=
 ⟨0,i,rfl,by simp [bnd,iv],Nat.zero_le _,hi,h⟩
def lH (l:List ByteArray) (s:ByteArray):ByteArray:=if s∈l then V (at_ l s+1) else V 0++ST s
def wT (l:List ByteArray) (s:ByteArray):List ByteArray:=if s∈l then l else l++[s]
end Go.Proofs.Ytklmcfpgdfibnaa.P
namespace Go.Proofs.Ytklmcfpgdfibnaa.P
open Go Go.Proofs.Ytklmcfpgdfibnaa Go.Proofs.Ytklmcfpgdfibnaa.Eng
set_option maxHeartbeats 4000000
set_option linter.unusedVariables false
set_option linter.unusedSimpArgs false
attribute [local irreducible] prP gP gE gF AW ixW ldc ldg ldl stc stg scW mkW apW AZ cl2 BJ CH B2
variable {w0:World}
theorem pS {a:List AE} {i:Nat} (hi:i<a.length):tR tO (a.take i)++[T.c (.bool (ob a i).live), .c (I (ob a i).gen), .c (I (ob a i).site), .c (I (ob a i).holds), .c (I (ob a i).roots), .c (I (ob a i).count), .l 1 (tI (ob a i).field), .c (.bool (ob a i).purple)]=tR tO (a.take (i+1)):=by
 rw [List.take_succ_eq_append_getElem hi,DQ hi]
 exact iI _ (ob a i)
theorem NL {h:Hp} {K:J2} (hf:Fits h) (hk:K [] (trees h)):cl2 ⟨Try.prog,w0⟩ 97 DF.sg [] (trees h) K:=by
 obtain ⟨a,b,c,d⟩:=h
 have g1:=hf.ol;have g2:=hf.wl;have g3:=hf.sl;have g4:=hf.bl
 simp only at g1 g2 g3 g4
 refine DF.cl2 ?_
 unfold DF.txt
 simp only [AJ,AO,AS,AN,AQ,AG,AK,AI,AR,AT,AU,AM,AL,AP,BP,BU,BW,BT,BV,BS,BQ,AY,A6,A7,A4,A5,A8]
 refine GH (ZG _) (by omega) (GV (by omega) (R1 (by omega) ?_))
 refine BL (fun i=>[iv a.length,iv i]) (fun i=>[tR tO (a.take i),tR tW b,tI c,tS d]) a.length (fun _=>True) rfl rfl trivial (fun R i hi hP hR=> ?_)
 simp only [AJ,AO,AS,AN,AQ,AG,AK,AI,AR,AT,AU,AM,AL,AP,BP,BU,BW,BT,BV,BS,BQ,AY,A6,A7,A4,A5,A8]
 refine BE (BB (fun hlt=> ?_) fun hge=> ?_)
 ·have hlt:i<a.length:=by omega
  have hfo:((ob a i).field.length:Int)≤1048576:=xC (l:=a) hf.of hlt
  have hln:(a.take i).length=i:=by simp;omega
  replace hR:=hR hlt trivial
  refine BF hlt (OT hlt ?_)
  rw [MW hlt]
  refine GV (by omega) (XC (by rw [hln];omega) (A9 (by omega) ?_))
  rw [←pS hlt] at hR
  exact hR
 ·have:i=a.length:=by omega
  subst this
  rw [List.take_length];exact hk
structure J9 (l:List ByteArray):Prop where
 len:l.length≤6
 sz: ∀i,i<l.length→1≤((gS l i).size:Int)∧((gS l i).size:Int)≤8
 one: ∀i,i<l.length→gS l i∉l.take i
theorem T9 {l:List ByteArray} {K:J2} (hl:(l.length:Int)<2^62) (h1:J9 l→K [.bool true] []) (h2: ¬J9 l→K [.bool false] []):cl2 ⟨Try.prog,w0⟩ 129 EU.sg [] [tS l] K:=by
 refine EU.cl2 ?_
 unfold EU.txt
 simp only [AJ,AO,AS,AN,AQ,AG,AK,AI,AR,AT,AU,AM,AL,AP,BP,BU,BW,BT,BV,BS,BQ,AY,A6,A7,A4,A5,A8]
 refine BL (fun i=>[iv l.length,iv i]) (fun _=>[]) l.length (fun i=> ∀k,k<i→(1≤((gS l k).size:Int)∧((gS l k).size:Int)≤8)∧gS l k∉l.take k) rfl rfl (fun k hk=>by omega) (fun R i hi hP hR=> ?_)
 simp only [AJ,AO,AS,AN,AQ,AG,AK,AI,AR,AT,AU,AM,AL,AP,BP,BU,BW,BT,BV,BS,BQ,AY,A6,A7,A4,A5,A8]
 refine BE (BB (fun hlt=> ?_) fun hge=> ?_)
 ·have hlt:i<l.length:=by omega
  refine BF hlt (ldS hlt (gR (FG (HZ (B9 (B9 (S3 (fun hb=> ?_) fun hb=> ?_)))))))
  ·refine oU (by omega) (B9 (D9 hb ?_))
   have e:I2 (tS l) [] (AD (aN (two (iv 0) (iv i)))*1) (AD (bN (two (iv 0) (iv i)))*1)=tS (l.take i):=by
    have h1:AD (aN (two (iv 0) (iv i)))=0:=rfl
    have h2:AD (bN (two (iv 0) (iv i)))=i:=BA i
    rw [h1,h2];simp [I2,node,tS,List.map_take]
   rw [e]
   refine V4 (by simp;omega) (F8 hb rfl (BB (fun hm=>h2 fun hk=>hk.one i hlt hm) fun hm=> ?_))
   refine A9 (by omega) (hR hlt fun k hk=> ?_)
   rcases Nat.lt_succ_iff_lt_or_eq.1 hk with h3 | rfl
   ·exact hP k h3
   ·exact ⟨Decidable.not_not.1 hb,hm⟩
  ·exact B9 (J6 hb (HR hb rfl (CV (h2 fun hk=>hb (hk.sz i hlt)))))
 ·have:i=l.length:=by omega
  subst this
  refine IU ?_
  by_cases h6:(l.length:Int)≤6
  ·rw [decide_eq_true h6]
   exact h1 ⟨by omega,fun i hi=>(hP i hi).1,fun i hi=>(hP i hi).2⟩
  ·rw [decide_eq_false h6]
   exact h2 fun hk=>by have:=hk.len;omega
structure WT (h:Hp) (i:Nat):Prop where
 gen:0≤(ob h.AB i).gen∧(ob h.AB i).gen≤999
 len:(ob h.AB i).field.length=3
 lead: ∀j,j<3→gI (ob h.AB i).field j≠ -1→(ob h.AB i).live=true∧0≤AA h.AB (gI (ob h.AB i).field j)
 dead:(ob h.AB i).live=false→(ob h.AB i).site=0∧(ob h.AB i).holds=0∧(ob h.AB i).roots=0∧(ob h.AB i).count=0∧(ob h.AB i).purple=false
 lv:(ob h.AB i).live=true→1≤(ob h.AB i).gen∧(0≤(ob h.AB i).site∧(ob h.AB i).site≤(h.sites.length:Int)-1)∧(0≤(ob h.AB i).holds∧(ob h.AB i).holds≤20)∧(0≤(ob h.AB i).roots∧(ob h.AB i).roots≤20)∧
  (ob h.AB i).count=(ob h.AB i).holds+(ob h.AB i).roots+inE h.AB i∧1≤(ob h.AB i).count∧(ob h.AB i).purple=decide (B6 i (ob h.AB i).gen∈h.buffer)
structure BG (h:Hp):Prop where
 ol:h.AB.length=8
 wl:h.CB.length=8
 sites:J9 h.sites
 obj: ∀i,i<8→WT h i
 weak: ∀i,i<8→((wk h.CB i).used=false→(wk h.CB i).target=0)∧((wk h.CB i).used=true→8≤(wk h.CB i).target∧(wk h.CB i).target≤7999)
 buf: ∀i,i<h.buffer.length→0≤AA h.AB (gI h.buffer i)∧gI h.buffer i∉h.buffer.take i
theorem tB {l:List Int} {P:Int→Prop} (h0:P 0) (h: ∀x∈l,P x) (i:Nat):P (gI l i):=by
 by_cases hi:i<l.length
 ·rw [←DE hi];exact h _ (List.getElem_mem hi)
 ·unfold gI;rw [List.getD_eq_getElem?_getD,List.getElem?_eq_none (by omega)];exact h0
theorem VE:F64 0:=⟨by omega,by omega⟩
theorem QR.ob {h:Hp} (hn:QR h) (i:Nat):F64 (ob h.AB i).gen∧F64 (ob h.AB i).site∧F64 (ob h.AB i).holds∧F64 (ob h.AB i).roots∧F64 (ob h.AB i).count∧ ∀f∈(ob h.AB i).field,F64 f:=by
 by_cases hi:i<h.AB.length
 ·rw [←DQ hi];exact hn.obj _ (List.getElem_mem hi)
 ·unfold Eng.ob;rw [List.getD_eq_getElem?_getD,List.getElem?_eq_none (by omega)]
  exact ⟨VE,VE,VE,VE,VE,fun f hf=>by simp at hf⟩
theorem QR.fld {h:Hp} (hn:QR h) (i j:Nat):F64 (gI (Eng.ob h.AB i).field j):=tB VE (hn.ob i).2.2.2.2.2 j
theorem QR.bf {h:Hp} (hn:QR h) (i:Nat):F64 (gI h.buffer i):=tB VE hn.buf i
theorem uP {l:List AE} (hl:(l.length:Int)≤1048576) (hf: ∀o∈l,(o.field.length:Int)≤1048576) (s:Int):0≤inE l s∧inE l s≤2^40:=by
 rw [inE];split
 ·have he:=OL (l:=l) (id:=B6 s (ob l s.toNat).gen) (b:=1048576) fun o ho=>by have:=hf o ho;omega
  have hmul:l.length*1048576≤1048576*1048576:=Nat.mul_le_mul_right _ (by omega)
  omega
 ·omega
theorem ZR {h:Hp} {i:Nat} {K:J2} (hf:Fits h) (hn:QR h) (hi:i<h.AB.length) (h1:WT h i→K [.bool true] []) (h2: ¬WT h i→K [.bool false] []):cl2 ⟨Try.prog,w0⟩ 130 GQ.sg [I i] (trees h) K:=by
 have g1:=hf.ol;have g3:=hf.sl;have g4:=hf.bl
 refine GQ.cl2 ?_
 unfold GQ.txt
 simp only [AJ,AO,AS,AN,AQ,AG,AK,AI,AR,AT,AU,AM,AL,AP,BP,BU,BW,BT,BV,BS,BQ,AY,A6,A7,A4,A5,A8]
 refine BF hi (OT hi ?_)
 rw [MW hi,AG]
 have hfo:=oV hf.of i
 have hnum:=hn.ob i
 obtain ⟨⟨n1,n2⟩,⟨n3,n4⟩,_,_,⟨n5,n6⟩,_⟩:=hnum
 have hib:=uP hf.ol hf.of i
 refine FG (HZ (B9 (B9 (B9 (S3 (fun hg=> ?_) fun hg=> ?_)))))
 rotate_left
 ·exact HR hg rfl (CV (h2 fun hk=>hg hk.gen))
 refine DN (F8 hg rfl (BB (fun h3=>h2 fun hk=>by have:=hk.len;omega) fun h3=> ?_))
 have hl3:(ob h.AB i).field.length=3:=by omega
 have hg:0≤(ob h.AB i).gen∧(ob h.AB i).gen≤999:=Decidable.not_not.1 hg
 rw [hl3]
 refine BL (fun j=>[iv i,iv (AD (iv i)*8+6),iv 3,iv j, .bool (ob h.AB i).live,I (ob h.AB i).gen,I (ob h.AB i).site,I (ob h.AB i).holds,I (ob h.AB i).roots,I (ob h.AB i).count,iv (AD (iv i)*8+6), .bool (ob h.AB i).purple]) (fun _=>[]) 3 (fun j=> ∀k,k<j→gI (ob h.AB i).field k≠ -1→(ob h.AB i).live=true∧0≤AA h.AB (gI (ob h.AB i).field k)) rfl rfl (fun k hk=>by omega) (fun R j hj hP hR=> ?_)
 simp only [AJ,AO,AS,AN,AQ,AG,AK,AI,AR,AT,AU,AM,AL,AP,BP,BU,BW,BT,BV,BS,BQ,AY,A6,A7,A4,A5,A8]
 rw [BA (AD (iv i)*8+6),MW hi,AG,hl3]
 refine BE (BB (fun hlt=> ?_) fun hge=> ?_)
 ·have hlt:j<3:=by omega
  refine BF hlt (VL hi (by omega) ?_)
  repeat' (first | refine B5 (hn.fld i j) (by omega) ?_ | refine B9 ?_ | refine W6 ?_ | refine sN ?_ | refine yE (by first | with_reducible assumption | omega) ?_ | refine wJ (by first | with_reducible assumption | omega) ?_ | refine NI (by first | with_reducible assumption | omega) ?_ | refine V0 (by first | with_reducible assumption | omega) ?_ | refine NX (by with_reducible assumption) ?_ | refine fQ (by with_reducible assumption) ?_ | refine kJ (by with_reducible assumption) rfl ?_ | refine nI (by with_reducible assumption) rfl ?_ | refine HR (by first | with_reducible assumption | omega) rfl ?_ | refine F8 (by first | with_reducible assumption | omega) rfl ?_ | refine CV ?_ | refine C7 ?_ | refine BE ?_ | refine DN ?_ | refine A9 (by omega) ?_ | refine BB (fun _=> ?_) (fun _=> ?_) | refine QW (fun _=> ?_) (fun _=> ?_) | refine o9 (fun _=> ?_) (fun _=> ?_) | refine DR ?_)
  all_goals first
   | (refine hR hlt fun k hk hne=> ?_
      rcases Nat.lt_succ_iff_lt_or_eq.1 hk with h4 | rfl
      ·exact hP k h4 hne
      ·first
       | exact absurd hne (by assumption)
       | exact ⟨by simp_all,by omega⟩)
   | (refine h2 fun hk=> ?_
      have h4:=hk.lead j hlt (by assumption)
      first
       | omega
       | simp_all)
 ·have hj3:j=3:=by omega
  subst hj3
  cases hv:(ob h.AB i).live with
  | false=>
    have mk:(ob h.AB i).site=0→(ob h.AB i).holds=0→(ob h.AB i).roots=0→(ob h.AB i).count=0→(ob h.AB i).purple=false→WT h i:=fun a b c d e=>⟨hg,hl3,hP,fun _=>⟨a,b,c,d,e⟩,fun hh=>by rw [hv] at hh;cases hh⟩
    refine DR (CV ?_)
    cases hpu:(ob h.AB i).purple
    ·repeat' (first | refine B9 ?_ | refine VZ ?_ | refine HR (by first | with_reducible assumption | omega) rfl ?_ | refine F8 (by first | with_reducible assumption | omega) rfl ?_ | refine X8 rfl ?_ | refine CT ?_ | refine QW (fun _=> ?_) (fun _=> ?_) | refine DR ?_)
     all_goals first
      | exact h1 (mk (by assumption) (by assumption) (by assumption) (by assumption) hpu)
      | (refine h2 fun hk=> ?_
         have h4:=hk.dead hv
         omega)
    ·repeat' (first | refine B9 ?_ | refine VZ ?_ | refine HR (by first | with_reducible assumption | omega) rfl ?_ | refine F8 (by first | with_reducible assumption | omega) rfl ?_ | refine X8 rfl ?_ | refine CT ?_ | refine QW (fun _=> ?_) (fun _=> ?_) | refine DR ?_)
     all_goals
      refine h2 fun hk=> ?_
      have h4:=hk.dead hv
      rw [hpu] at h4
      first
       | omega
       | exact absurd h4.2.2.2.2 (by decide)
  | true=>
    refine DR (C7 ?_)
    have fin:1≤(ob h.AB i).gen→(0≤(ob h.AB i).site∧(ob h.AB i).site≤(h.sites.length:Int)-1)→(0≤(ob h.AB i).holds∧(ob h.AB i).holds≤20)→(0≤(ob h.AB i).roots∧(ob h.AB i).roots≤20)→(ob h.AB i).count=(ob h.AB i).holds+(ob h.AB i).roots+inE h.AB i→1≤(ob h.AB i).count→K [.bool (decide ((ob h.AB i).purple=decide (B6 i (ob h.AB i).gen∈h.buffer)))] []:=fun a b c d e f=>by
     by_cases hp:(ob h.AB i).purple=decide (B6 i (ob h.AB i).gen∈h.buffer)
     ·rw [decide_eq_true hp]
      exact h1 ⟨hg,hl3,hP,fun hh=>(by rw [hv] at hh;cases hh),fun _=>⟨a,b,c,d,e,f,hp⟩⟩
     ·rw [decide_eq_false hp]
      exact h2 fun hk=>hp (hk.lv hv).2.2.2.2.2.2
    have no: ∀{P:Prop}, ¬P→(WT h i→P)→K [.bool false] []:=fun hp hi=>h2 fun hk=>hp (hi hk)
    repeat' (first | refine FG ?_ | refine NT ⟨by omega,by omega⟩ (by omega) hf.of ?_ | refine FO ?_ | refine FV (by omega) ?_ | refine B9 ?_ | refine VZ ?_ | refine NI (by first | with_reducible assumption | omega) ?_ | refine V0 (by first | with_reducible assumption | omega) ?_ | refine HR (by first | with_reducible assumption | omega) rfl ?_ | refine F8 (by first | with_reducible assumption | omega) rfl ?_ | refine X8 rfl ?_ | refine IU ?_ | refine CT ?_ | refine FZ ⟨by omega,by omega⟩ ?_ | refine YW ⟨by omega,by omega⟩ ?_ | refine sG ?_ | refine QW (fun _=> ?_) (fun _=> ?_))
    all_goals first
     | exact fin (by assumption) (by assumption) (by assumption) (by assumption) (by assumption) (by assumption)
     | (refine h2 fun hk=> ?_
        have h4:=hk.lv hv
        omega)
end Go.Proofs.Ytklmcfpgdfibnaa.P
