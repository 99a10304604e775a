/- A part of the proof. -/
import Derived.Test.YtklmcfpgdfibnaaReLawTyNode
import Derived.Test.YtklmcfpgdfibnaaReRowT
import Derived.Test.YtklmcfpgdfibnaaReTxtB
namespace Go.Proofs.Ytklmcfpgdfibnaa.P
open Go Go.Proofs.Ytklmcfpgdfibnaa Go.Proofs.Ytklmcfpgdfibnaa.Eng
set_option maxHeartbeats 4000000
set_option linter.unusedVariables false
set_option linter.unusedSimpArgs false
attribute [local irreducible] prP gP gE gF AY ixW ldc ldg ldl stc stg scW mkW apW BD cl2 BQ CZ B9
variable {w0:World}
structure Gr where
 nodes:List Nd
 B2:List Wk
 sites:List ByteArray
abbrev eM (g:Gr):List (List T):=[tR tN g.nodes,tR tW g.B2,tS g.sites]
def NT (o:AG):Nd:=⟨o.live,o.gen,o.site,o.holds,o.roots,o.field⟩
def nY (h:Hp):Gr:=⟨h.AD.map NT,h.B2,h.sites⟩
theorem uH {l:List AG} {P:AG→Prop} (h: ∀o∈l,P o) {i:Nat} (hi:i<l.length):P (ob l i):=by rw [←DA hi];exact h _ (List.getElem_mem hi)
theorem rC (l:List Nd) (x:Nd):tR tN l++[T.c (.bool x.live), .c (I x.gen), .c (I x.site), .c (I x.holds), .c (I x.roots), .l 1 (tI x.field)]=tR tN (l++[x]):=VA l x
theorem q8 {a:List AG} {i:Nat} (hi:i<a.length):tR tN ((a.take i).map NT)++[T.c (.bool (ob a i).live), .c (I (ob a i).gen), .c (I (ob a i).site), .c (I (ob a i).holds), .c (I (ob a i).roots), .l 1 (tI (ob a i).field)]=tR tN ((a.take (i+1)).map NT):=by
 rw [List.take_succ_eq_append_getElem hi,List.map_append,DA hi]
 exact rC _ (NT (ob a i))
theorem VW {h:Hp} {K:J2} (hf:Fits h) (hk:K [] (eM (nY h))):cl2 ⟨Try.prog,w0⟩ 71 FE.sg [] (trees h) K:=by
 obtain ⟨a,b,c,d⟩:=h
 have g1:=hf.ol;have g2:=hf.wl;have g3:=hf.sl
 simp only at g1 g2 g3
 refine FE.cl2 ?_
 unfold FE.txt
 simp only [AJ,AN,AQ,AR,AK,AE,AL,AI,AS,AP,AU,AT,AM,AO,BJ,BP,BM,BN,BO,BS,BL,A4,A5,A9,A8,BA,A7]
 refine DH (UZ _) (by simp only [cnt,List.length_nil];omega) (DH (UY _) (by omega) ?_)
 refine BF (fun i=>[iv i]) (fun i=>[tR tN ((a.take i).map NT),tR tW b,tS d]) a.length (fun _=>True) rfl rfl trivial (fun R i hi hP hR=> ?_)
 simp only [AJ,AN,AQ,AR,AK,AE,AL,AI,AS,AP,AU,AT,AM,AO,BJ,BP,BM,BN,BO,BS,BL,A4,A5,A9,A8,BA,A7]
 refine A6 (AW (fun hlt=> ?_) fun hge=> ?_)
 ·have hlt:i<a.length:=by omega
  have hfo:((ob a i).field.length:Int)≤1048576:=uH (l:=a) hf.of hlt
  have hln:((a.take i).map NT).length=i:=by simp;omega
  replace hR:=hR hlt trivial
  refine AH hlt (TL hlt ?_)
  rw [HT hlt]
  refine DH (KW _) (by first | omega | (simp only [AJ,AN,AQ,AR,AK,AE,AL,AI,AS,AP,AU,AT,AM,AO,BJ,BP,BM,BN,BO,BS,BL,A4,A5,A9,A8,BA,A7];omega)) (mL (by rw [hln];omega) (BB (by omega) ?_))
  rw [←q8 hlt] at hR
  exact hR
 ·have:i=a.length:=by omega
  subst this
  simpa [nY,eM] using hk
def wW (g:Gr):Int:=szL fA g.nodes+szL UG g.B2+g.sites.length
structure TZ (g:Gr):Prop where
 nl:(g.nodes.length:Int)≤1048576
 nf: ∀o∈g.nodes,(o.field.length:Int)≤1048576
 wl:(g.B2.length:Int)≤1048576
 sl:(g.sites.length:Int)≤1048576
theorem TZ.of {h:Hp} (hf:Fits h):TZ (nY h):=by
 refine ⟨?_, ?_,hf.wl,hf.sl⟩
 ·simp only [nY,List.length_map];exact hf.ol
 ·intro o ho
  obtain ⟨x,hx,rfl⟩:=List.mem_map.1 ho
  exact hf.of x hx
theorem TZ.nodes {g:Gr} (hf:TZ g):0≤szL fA g.nodes∧szL fA g.nodes≤2^41:=by
 refine ⟨SW pC _, ?_⟩
 have h1:=WT (sz:=fA) (b:=1048581) (l:=g.nodes) fun o ho=>by have:=hf.nf o ho;unfold fA;omega
 have h2:=hf.nl
 have h3:(g.nodes.length:Int)*1048581≤1048576*1048581:=Int.mul_le_mul_of_nonneg_right h2 (by omega)
 omega
theorem TZ.B2 {g:Gr} (hf:TZ g):0≤szL UG g.B2∧szL UG g.B2≤2^41:=by
 refine ⟨SW bE _, ?_⟩
 have h1:=WT (sz:=UG) (b:=2) (l:=g.B2) fun o ho=>by unfold UG;omega
 have h2:=hf.wl
 omega
theorem TZ.sz {g:Gr} (hf:TZ g):0≤wW g∧wW g≤2^43:=by
 have h1:=hf.nodes;have h2:=hf.B2;have h4:=hf.sl
 unfold wW;omega
end Go.Proofs.Ytklmcfpgdfibnaa.P
namespace Go.Proofs.Ytklmcfpgdfibnaa.P
open Go Go.Proofs.Ytklmcfpgdfibnaa Go.Proofs.Ytklmcfpgdfibnaa.Eng
set_option maxHeartbeats 4000000
set_option linter.unusedVariables false
set_option linter.unusedSimpArgs false
attribute [local irreducible] prP gP gE gF AY ixW ldc ldg ldl stc stg scW mkW apW BD cl2 BQ CZ B9
variable {w0:World}
def K4 (id:Int) (o:AG):Nat:=if o.live=true then o.field.count id else 0
def CH (l:List AG) (id:Int):Nat:=(l.map (K4 id)).sum
def inE (l:List AG) (s:Int):Int:=if (0≤s∧s≤l.length-1)∧(ob l s.toNat).live=true then CH l (B7 s (ob l s.toNat).gen) else 0
theorem gR {l:List AG} {i:Nat} {id:Int} (hi:i<l.length):CH (l.take (i+1)) id=CH (l.take i) id+K4 id (ob l i):=by
 rw [CH,List.take_succ_eq_append_getElem hi,List.map_append,List.sum_append,DA hi];simp [CH]
theorem fL {l:List Int} {j:Nat} {id:Int} (hj:j<l.length):(l.take (j+1)).count id=(l.take j).count id+if gI l j=id then 1 else 0:=by
 rw [List.take_succ_eq_append_getElem hj,List.count_append,DB hj,List.count_singleton]
 simp
theorem tF (id:Int) (o:AG):K4 id o≤o.field.length:=by
 unfold K4;split
 ·exact List.count_le_length
 ·exact Nat.zero_le _
theorem PA {l:List AG} {id:Int} {b:Nat} (h: ∀o∈l,o.field.length≤b):CH l id≤l.length*b:=by
 induction l with
 | nil=>simp [CH]
 | cons o l ih=>
   have h1:=ih fun x hx=>h x (by simp [hx])
   have h2:=tF id o
   have h3:=h o (by simp)
   simp only [CH,List.map_cons,List.sum_cons,List.length_cons,Nat.add_mul,Nat.one_mul] at h1 ⊢
   omega
theorem p5 {l:List AG} (hf: ∀o∈l,(o.field.length:Int)≤1048576) (i:Nat):((ob l i).field.length:Int)≤1048576:=by
 by_cases hi:i<l.length
 ·rw [←DA hi];exact hf _ (List.getElem_mem hi)
 ·unfold ob;rw [List.getD_eq_getElem?_getD,List.getElem?_eq_none (by omega)];simp
theorem PM {a:List AG} {b c d:List T} {s:Int} {K:J2} (hs:F64 s) (hl:(a.length:Int)≤1048576) (hf: ∀o∈a,(o.field.length:Int)≤1048576) (h:K [I (inE a s)] []):cl2 ⟨Try.prog,w0⟩ 88 DY.sg [I s] [tR tO a,b,c,d] K:=by
 obtain ⟨s1,s2⟩:=hs
 refine DY.cl2 ?_
 unfold DY.txt
 simp only [AJ,AN,AQ,AR,AK,AE,AL,AI,AS,AP,AU,AT,AM,AO,BJ,BP,BM,BN,BO,BS,BL,A4,A5,A9,A8,BA,A7]
 repeat' (first | refine DQ ?_ | refine GZ ?_ | refine BC ?_ | refine JF (by first | with_reducible assumption | omega) ?_ | refine HH (by first | with_reducible assumption | omega) ?_ | refine DX (by first | with_reducible assumption | omega) rfl ?_ | refine EH (by first | with_reducible assumption | omega) rfl ?_ | refine CG ?_ | refine FQ ?_ | refine I5 ⟨by omega,by omega⟩ ?_ | refine TY (by omega) (by omega) ?_ | refine JR (by omega) (by decide) rfl ?_ | refine KT (by omega) rfl ?_ | refine M9 (fun _=> ?_) (fun _=> ?_) | refine V7 (fun _=> ?_) (fun _=> ?_) | refine CC ?_ | simp only [AJ,AN,AQ,AR,AK,AE,AL,AI,AS,AP,AU,AT,AM,AO,BJ,BP,BM,BN,BO,BS,BL,A4,A5,A9,A8,BA,A7])
 ·rw [inE,if_neg (by simp_all)] at h;exact h
 ·rename_i hin hlv
  have hin:0≤s∧s≤(a.length:Int)-1:=Decidable.not_not.1 hin
  rw [inE,if_pos ⟨hin,by simpa using hlv⟩] at h
  generalize B7 s (ob a s.toNat).gen=id at h ⊢
  refine BF (fun i=>[I (CH (a.take i) id),I id,iv i]) (fun _=>[]) a.length (fun _=>True) rfl rfl trivial (fun R i hi _ hR=> ?_)
  have he:=PA (l:=a.take i) (id:=id) (b:=1048576) fun o ho=>by have:=hf o (List.mem_of_mem_take ho);omega
  have hln:(a.take i).length≤a.length:=by simp;omega
  have hmul:(a.take i).length*1048576≤1048576*1048576:=Nat.mul_le_mul_right _ (by omega)
  have hfo:=p5 hf i
  simp only [AJ,AN,AQ,AR,AK,AE,AL,AI,AS,AP,AU,AT,AM,AO,BJ,BP,BM,BN,BO,BS,BL,A4,A5,A9,A8,BA,A7]
  refine A6 (AW (fun hlt=> ?_) fun hge=> ?_)
  ·have hlt:i<a.length:=by omega
   replace hR:=hR hlt trivial
   rw [gR hlt,K4] at hR
   refine BF (fun j=>[I ((CH (a.take i) id+(if (ob a i).live=true then ((ob a i).field.take j).count id else 0):Nat):Int),I id,iv i,iv j]) (fun _=>[]) (ob a i).field.length (fun _=>True) (by simp only [List.take_zero,List.count_nil,ite_self,Nat.add_zero];rfl) rfl trivial (fun R2 j hj _ hR2=> ?_)
   have hc:((ob a i).field.take j).count id≤j:=Nat.le_trans List.count_le_length (by simp;omega)
   refine AH hlt (TI hlt ?_)
   rw [HT hlt,AE]
   by_cases hv:(ob a i).live=true
   ·simp only [if_pos hv] at hR hR2 ⊢
    refine A6 (BC (BC (BC (LZ (fun hlt2=> ?_) fun hge2=> ?_))))
    ·have hlt2':j<(ob a i).field.length:=by
      have:(j:Int)<((ob a i).field.length:Int):=hlt2
      omega
     replace hR2:=hR2 hlt2' trivial
     rw [fL hlt2'] at hR2
     refine AH hlt (BC (HG hlt2 (KT hlt rfl (DX hlt2 rfl (iO hv (BT (AH hlt (TI hlt ?_))))))))
     rw [HT hlt,AE]
     refine AH hlt2' (MR hlt hlt2' (B1 (AW (fun he=> ?_) fun he=> ?_)))
     ·rw [if_pos he] at hR2
      exact FW ⟨by omega,by omega⟩ (BB (by omega) hR2)
     ·rw [if_neg he] at hR2
      exact BB (by omega) hR2
    ·have:j=(ob a i).field.length:=by
      have: ¬(j:Int)<((ob a i).field.length:Int):=hge2
      omega
     subst this
     rw [List.take_length] at hc ⊢
     exact BC (JG hge2 (EH hge2 rfl (B6 (BB (by omega) hR))))
   ·have hv:(ob a i).live=false:=by simpa using hv
    simp only [hv,Bool.false_eq_true,if_false] at hR hR2 ⊢
    refine A6 (BC (BC (BC (LZ (fun hlt2=> ?_) fun hge2=> ?_))))
    ·exact AH hlt (BC (HG hlt2 (KT hlt (v:= .bool false) (by rw [←hv];rfl) (DX hlt2 rfl (B6 (BB (by omega) hR))))))
    ·exact BC (JG hge2 (EH hge2 rfl (B6 (BB (by omega) hR))))
  ·have:i=a.length:=by omega
   subst this
   rw [List.take_length];exact h
 ·rw [inE,if_neg (by rintro ⟨h1,h2⟩;simp_all)] at h;exact h
theorem YJ {l:List Int} {i:Nat} {x:Int} (hi:i<l.length) (h:x∉l.take i) (hn:gI l i≠x):x∉l.take (i+1):=by
 rw [List.take_succ_eq_append_getElem hi,DB hi]
 simp only [List.mem_append,List.mem_singleton,not_or]
 exact ⟨h,fun he=>hn he.symm⟩
theorem DJ {l:List Int} {i:Nat} (h:i<l.length):gI l i∈l:=by rw [←DB h];exact List.getElem_mem h
theorem QW {l:List Int} {x:Int} {K:J2} (hl:(l.length:Int)<2^62) (h:K [.bool (decide (x∈l))] []):cl2 ⟨Try.prog,w0⟩ 91 EN.sg [I x] [tI l] K:=by
 refine EN.cl2 ?_
 unfold EN.txt
 simp only [AJ,AN,AQ,AR,AK,AE,AL,AI,AS,AP,AU,AT,AM,AO,BJ,BP,BM,BN,BO,BS,BL,A4,A5,A9,A8,BA,A7]
 refine BF (fun i=>[I x,iv l.length,iv i]) (fun _=>[]) l.length (fun i=>x∉l.take i) rfl rfl (by simp) (fun R i hi hP hR=> ?_)
 refine A6 (AW (fun hlt=> ?_) fun hge=> ?_)
 ·have hlt:i<l.length:=by omega
  refine AH hlt (ldI hlt (B1 (AW (fun he=> ?_) fun he=> ?_)))
  ·rw [decide_eq_true (he ▸ DJ hlt)] at h;exact h
  ·exact BB (by omega) (hR hlt (YJ hlt hP he))
 ·have:i=l.length:=by omega
  subst this
  rw [List.take_length] at hP
  rw [decide_eq_false hP] at h;exact h
theorem HB {l:List Int} {x:Int} {K:J2} (hl:(l.length:Int)<2^62) (h:K [.bool (decide (x∈l))] []):cl2 ⟨Try.prog,w0⟩ 89 CD.sg [I x] [tI l] K:=by
 refine CD.cl2 ?_
 unfold CD.txt
 simp only [AJ,AN,AQ,AR,AK,AE,AL,AI,AS,AP,AU,AT,AM,AO,BJ,BP,BM,BN,BO,BS,BL,A4,A5,A9,A8,BA,A7]
 refine BF (fun i=>[I x,iv i]) (fun _=>[]) l.length (fun i=>x∉l.take i) rfl rfl (by simp) (fun R i hi hP hR=> ?_)
 refine A6 (AW (fun hlt=> ?_) fun hge=> ?_)
 ·have hlt:i<l.length:=by omega
  refine AH hlt (ldI hlt (B1 (AW (fun he=> ?_) fun he=> ?_)))
  ·rw [decide_eq_true (he ▸ DJ hlt)] at h;exact h
  ·exact BB (by omega) (hR hlt (YJ hlt hP he))
 ·have:i=l.length:=by omega
  subst this
  rw [List.take_length] at hP
  rw [decide_eq_false hP] at h;exact h
attribute [irreducible] inE CH
end Go.Proofs.Ytklmcfpgdfibnaa.P
namespace Go.Proofs.Ytklmcfpgdfibnaa.P
open Go Go.Proofs.Ytklmcfpgdfibnaa Go.Proofs.Ytklmcfpgdfibnaa.Eng
set_option linter.unusedVariables false
def inB (n lo hi:Int):Bool:=decide (n≥lo)&&decide (n≤hi)
def O1 (n:Int):Bool:=inB n (-1000000000) 1000000000
def wG (a b c d:Int) (s:ByteArray):Bool:=(((O1 a&&O1 b)&&O1 c)&&O1 d)&&decide ((s.size:Int)≤8)
def yF (c v:Int) (l:List Int):Bool:=(inB c 0 6&&O1 v&&decide (l.length≤8))&&l.all O1
end Go.Proofs.Ytklmcfpgdfibnaa.P
namespace Go.Proofs.Ytklmcfpgdfibnaa.P
open Go Go.Proofs.Ytklmcfpgdfibnaa Go.Proofs.Ytklmcfpgdfibnaa.Eng
set_option linter.unusedVariables false
def MZ (l:List Nat):ByteArray:=l.foldl (fun b n=>b.push (UInt8.ofNat n)) ByteArray.empty
theorem bX (l:List Nat):(MZ l).size=l.length:=by
 have: ∀(l:List Nat) (b:ByteArray),(l.foldl (fun b n=>b.push (UInt8.ofNat n)) b).size=b.size+l.length:=by
  intro l
  induction l with
  | nil=>intro b;rfl
  | cons a l ih=>intro b;rw [List.foldl_cons,ih,ByteArray.size_push,List.length_cons];omega
 rw [MZ,this];simp
def vd:Nat→Nat→List Nat
 | 0,n=>[n]
 | k+1,n=>if n≥128 then (128+n % 128)::vd k (n/128) else [n]
theorem m6: ∀k n,(vd k n).length≤k+1
 | 0,n=>by simp [vd]
 | k+1,n=>by
   unfold vd;split
   ·have:=m6 k (n/128);simp only [List.length_cons];omega
   ·simp
def V (n:Int):ByteArray:=if inB n 0 562949953421311 then MZ (vd 6 n.toNat) else ⟨#[]⟩
theorem RQ (n:Int):(V n).size≤7:=by
 unfold V;split
 ·rw [bX];exact m6 6 _
 ·exact Nat.zero_le _
attribute [irreducible] V
end Go.Proofs.Ytklmcfpgdfibnaa.P
namespace Go.Proofs.Ytklmcfpgdfibnaa.P
open Go Go.Proofs.Ytklmcfpgdfibnaa Go.Proofs.Ytklmcfpgdfibnaa.Eng
set_option linter.unusedVariables false
def zg (n:Int):Int:=if inB n (-100000000000000) 100000000000000 then (if n<0 then -2*n-1 else 2*n) else -1
theorem j7 {n lo hi:Int}:inB n lo hi=true↔lo≤n∧n≤hi:=by simp [inB]
def SI (n:Int):ByteArray:=V (zg n)
def ST (s:ByteArray):ByteArray:=if (s.size:Int)>8 then ⟨#[]⟩ else V s.size++s
theorem sI (s:ByteArray):(ST s).size≤15:=by
 unfold ST;split
 ·exact Nat.zero_le _
 ·have:=RQ s.size
  rw [ByteArray.size_append];omega
instance :LawfulBEq ByteArray where
 eq_of_beq {a b} h:=by
  cases a;cases b
  have h:_==_:=h
  first | exact congrArg _ (eq_of_beq h) | (simp [BEq.beq,instBEqByteArray.beq] at h;simpa using h) | (simp_all)
 rfl {a}:=by
  cases a
  first | exact beq_self_eq_true (α:=Array UInt8) _ | (show ByteArray.beq _ _=true;unfold ByteArray.beq;simp) | (simp [BEq.beq,ByteArray.beq])
def at_ (l:List ByteArray) (s:ByteArray):Int:=if s∈l then (l.idxOf s:Int) else -1
end Go.Proofs.Ytklmcfpgdfibnaa.P
namespace Go.Proofs.Ytklmcfpgdfibnaa.P
open Go Go.Proofs.Ytklmcfpgdfibnaa Go.Proofs.Ytklmcfpgdfibnaa.Eng
set_option linter.unusedVariables false
def szB (s:ByteArray):Bool:=decide ((s.size:Int)≤8)
def yX (l:List ByteArray):Bool:=l.all szB&&decide l.Nodup
def w9 (n:Int) (l:List ByteArray):Bool:=(O1 n&&decide (l.length≤400))&&yX l
theorem oA {n i:Nat} (hi:i≤n) {K:Value→Value→Prop} (h:K (iv 0) (iv i)):scW n none (some (iv i)) K:=
 ⟨0,i,rfl,by simp [bnd,iv],Nat.zero_le _,hi,h⟩
def pF (l:List ByteArray) (s:ByteArray):ByteArray:=if s∈l then V (at_ l s+1) else V 0++ST s
def w7 (l:List ByteArray) (s:ByteArray):List ByteArray:=if s∈l then l else l++[s]
end Go.Proofs.Ytklmcfpgdfibnaa.P
namespace Go.Proofs.Ytklmcfpgdfibnaa.P
open Go Go.Proofs.Ytklmcfpgdfibnaa Go.Proofs.Ytklmcfpgdfibnaa.Eng
set_option maxHeartbeats 4000000
set_option linter.unusedVariables false
set_option linter.unusedSimpArgs false
attribute [local irreducible] prP gP gE gF AY ixW ldc ldg ldl stc stg scW mkW apW BD cl2 BQ CZ B9
variable {w0:World}
theorem sF {a:List AG} {i:Nat} (hi:i<a.length):tR tO (a.take i)++[T.c (.bool (ob a i).live), .c (I (ob a i).gen), .c (I (ob a i).site), .c (I (ob a i).holds), .c (I (ob a i).roots), .c (I (ob a i).count), .l 1 (tI (ob a i).field), .c (.bool (ob a i).purple)]=tR tO (a.take (i+1)):=by
 rw [List.take_succ_eq_append_getElem hi,DA hi]
 exact rY _ (ob a i)
theorem J4 {h:Hp} {K:J2} (hf:Fits h) (hk:K [] (trees h)):cl2 ⟨Try.prog,w0⟩ 122 C3.sg [] (trees h) K:=by
 obtain ⟨a,b,c,d⟩:=h
 have g1:=hf.ol;have g2:=hf.wl;have g3:=hf.sl;have g4:=hf.bl
 simp only at g1 g2 g3 g4
 refine C3.cl2 ?_
 unfold C3.txt
 simp only [AJ,AN,AQ,AR,AK,AE,AL,AI,AS,AP,AU,AT,AM,AO,BJ,BP,BM,BN,BO,BS,BL,A4,A5,A9,A8,BA,A7]
 refine DH (UZ _) (by simp only [cnt,List.length_nil];omega) (DH (KW _) (by omega) (DH (UY _) (by omega) ?_))
 refine BF (fun i=>[iv i]) (fun i=>[tR tO (a.take i),tR tW b,tI c,tS d]) a.length (fun _=>True) rfl rfl trivial (fun R i hi hP hR=> ?_)
 simp only [AJ,AN,AQ,AR,AK,AE,AL,AI,AS,AP,AU,AT,AM,AO,BJ,BP,BM,BN,BO,BS,BL,A4,A5,A9,A8,BA,A7]
 refine A6 (AW (fun hlt=> ?_) fun hge=> ?_)
 ·have hlt:i<a.length:=by omega
  have hfo:((ob a i).field.length:Int)≤1048576:=uH (l:=a) hf.of hlt
  have hln:(a.take i).length=i:=by simp;omega
  replace hR:=hR hlt trivial
  refine AH hlt (TL hlt ?_)
  rw [HT hlt]
  refine DH (KW _) (by first | omega | (simp only [AJ,AN,AQ,AR,AK,AE,AL,AI,AS,AP,AU,AT,AM,AO,BJ,BP,BM,BN,BO,BS,BL,A4,A5,A9,A8,BA,A7];omega)) (mL (by rw [hln];omega) (BB (by omega) ?_))
  rw [←sF hlt] at hR
  exact hR
 ·have:i=a.length:=by omega
  subst this
  rw [List.take_length];exact hk
structure MD (l:List ByteArray):Prop where
 len:l.length≤6
 sz: ∀i,i<l.length→1≤((gS l i).size:Int)∧((gS l i).size:Int)≤8
 one: ∀i,i<l.length→gS l i∉l.take i
theorem fX {l:List ByteArray} {i:Nat} {x:ByteArray} (hi:i<l.length) (h:x∉l.take i) (hn:gS l i≠x):x∉l.take (i+1):=by
 rw [List.take_succ_eq_append_getElem hi,S1 hi]
 simp only [List.mem_append,List.mem_singleton,not_or]
 exact ⟨h,fun he=>hn he.symm⟩
structure T7 (h:Hp) (i:Nat):Prop where
 gen:0≤(ob h.AD i).gen∧(ob h.AD i).gen≤999
 len:(ob h.AD i).field.length=3
 lead: ∀j,j<3→gI (ob h.AD i).field j≠ -1→(ob h.AD i).live=true∧0≤AB h.AD (gI (ob h.AD i).field j)
 dead:(ob h.AD i).live=false→(ob h.AD i).site=0∧(ob h.AD i).holds=0∧(ob h.AD i).roots=0∧(ob h.AD i).count=0∧(ob h.AD i).purple=false
 lv:(ob h.AD i).live=true→1≤(ob h.AD i).gen∧(0≤(ob h.AD i).site∧(ob h.AD i).site≤(h.sites.length:Int)-1)∧(0≤(ob h.AD i).holds∧(ob h.AD i).holds≤20)∧(0≤(ob h.AD i).roots∧(ob h.AD i).roots≤20)∧
  (ob h.AD i).count=(ob h.AD i).holds+(ob h.AD i).roots+inE h.AD i∧1≤(ob h.AD i).count∧(ob h.AD i).purple=decide (B7 i (ob h.AD i).gen∈h.buffer)
structure BW (h:Hp):Prop where
 ol:h.AD.length=8
 wl:h.B2.length=8
 sites:MD h.sites
 obj: ∀i,i<8→T7 h i
 weak: ∀i,i<8→((wk h.B2 i).used=false→(wk h.B2 i).target=0)∧((wk h.B2 i).used=true→8≤(wk h.B2 i).target∧(wk h.B2 i).target≤7999)
 buf: ∀i,i<h.buffer.length→0≤AB h.AD (gI h.buffer i)∧gI h.buffer i∉h.buffer.take i
theorem tZ {l:List Int} {P:Int→Prop} (h0:P 0) (h: ∀x∈l,P x) (i:Nat):P (gI l i):=by
 by_cases hi:i<l.length
 ·rw [←DB hi];exact h _ (List.getElem_mem hi)
 ·unfold gI;rw [List.getD_eq_getElem?_getD,List.getElem?_eq_none (by omega)];exact h0
theorem W4:F64 0:=⟨by omega,by omega⟩
theorem UP.ob {h:Hp} (hn:UP h) (i:Nat):F64 (ob h.AD i).gen∧F64 (ob h.AD i).site∧F64 (ob h.AD i).holds∧F64 (ob h.AD i).roots∧F64 (ob h.AD i).count∧ ∀f∈(ob h.AD i).field,F64 f:=by
 by_cases hi:i<h.AD.length
 ·rw [←DA hi];exact hn.obj _ (List.getElem_mem hi)
 ·unfold Eng.ob;rw [List.getD_eq_getElem?_getD,List.getElem?_eq_none (by omega)]
  exact ⟨W4,W4,W4,W4,W4,fun f hf=>by simp at hf⟩
theorem UP.fld {h:Hp} (hn:UP h) (i j:Nat):F64 (gI (Eng.ob h.AD i).field j):=tZ W4 (hn.ob i).2.2.2.2.2 j
theorem UP.bf {h:Hp} (hn:UP h) (i:Nat):F64 (gI h.buffer i):=tZ W4 hn.buf i
theorem vK {l:List AG} (hl:(l.length:Int)≤1048576) (hf: ∀o∈l,(o.field.length:Int)≤1048576) (s:Int):0≤inE l s∧inE l s≤2^40:=by
 rw [inE];split
 ·have he:=PA (l:=l) (id:=B7 s (ob l s.toNat).gen) (b:=1048576) fun o ho=>by have:=hf o ho;omega
  have hmul:l.length*1048576≤1048576*1048576:=Nat.mul_le_mul_right _ (by omega)
  omega
 ·omega
end Go.Proofs.Ytklmcfpgdfibnaa.P
