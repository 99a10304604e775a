/- A part of the proof. -/
import Derived.Test.YtklmcfpgdfibnaaLkLawTyNode
import Derived.Test.YtklmcfpgdfibnaaLkRowT
import Derived.Test.YtklmcfpgdfibnaaLkTxtB
namespace Go.Proofs.Ytklmcfpgdfibnaa.P
open Go Go.Proofs.Ytklmcfpgdfibnaa Go.Proofs.Ytklmcfpgdfibnaa.Eng
set_option maxHeartbeats 4000000
set_option linter.unusedVariables false
set_option linter.unusedSimpArgs false
attribute [local irreducible] prP gP gE gF A6 ixW ldc ldg ldl stc stg scW mkW apW BD cl2 BP C3 B9
variable {w0:World}
structure Gr where
 nodes:List Nd
 B4:List Wk
 sites:List ByteArray
def zM (o:AG):Nd:=⟨o.live,o.gen,o.site,o.holds,o.roots,o.field⟩
def w6 (h:Hp):Gr:=⟨h.AA.map zM,h.B4,h.sites⟩
theorem xN {l:List AG} {P:AG→Prop} (h: ∀o∈l,P o) {i:Nat} (hi:i<l.length):P (ob l i):=by rw [←DL hi];exact h _ (List.getElem_mem hi)
def wC (g:Gr):Int:=szL eU g.nodes+szL U7 g.B4+g.sites.length
structure UF (g:Gr):Prop where
 nl:(g.nodes.length:Int)≤1048576
 nf: ∀o∈g.nodes,(o.field.length:Int)≤1048576
 wl:(g.B4.length:Int)≤1048576
 sl:(g.sites.length:Int)≤1048576
theorem UF.of {h:Hp} (hf:Fits h):UF (w6 h):=by
 refine ⟨?_, ?_,hf.wl,hf.sl⟩
 ·simp only [w6,List.length_map];exact hf.ol
 ·intro o ho
  obtain ⟨x,hx,rfl⟩:=List.mem_map.1 ho
  exact hf.of x hx
theorem UF.nodes {g:Gr} (hf:UF g):0≤szL eU g.nodes∧szL eU g.nodes≤2^41:=by
 refine ⟨SD nR _, ?_⟩
 have h1:=WD (sz:=eU) (b:=1048581) (l:=g.nodes) fun o ho=>by have:=hf.nf o ho;unfold eU;omega
 have h2:=hf.nl
 have h3:(g.nodes.length:Int)*1048581≤1048576*1048581:=Int.mul_le_mul_of_nonneg_right h2 (by omega)
 omega
theorem UF.B4 {g:Gr} (hf:UF g):0≤szL U7 g.B4∧szL U7 g.B4≤2^41:=by
 refine ⟨SD cI _, ?_⟩
 have h1:=WD (sz:=U7) (b:=2) (l:=g.B4) fun o ho=>by unfold U7;omega
 have h2:=hf.wl
 omega
theorem UF.sz {g:Gr} (hf:UF g):0≤wC g∧wC g≤2^43:=by
 have h1:=hf.nodes;have h2:=hf.B4;have h4:=hf.sl
 unfold wC;omega
end Go.Proofs.Ytklmcfpgdfibnaa.P
namespace Go.Proofs.Ytklmcfpgdfibnaa.P
open Go Go.Proofs.Ytklmcfpgdfibnaa Go.Proofs.Ytklmcfpgdfibnaa.Eng
set_option maxHeartbeats 4000000
set_option linter.unusedVariables false
set_option linter.unusedSimpArgs false
attribute [local irreducible] prP gP gE gF A6 ixW ldc ldg ldl stc stg scW mkW apW BD cl2 BP C3 B9
variable {w0:World}
def L5 (id:Int) (o:AG):Nat:=if o.live=true then o.field.count id else 0
def CI (l:List AG) (id:Int):Nat:=(l.map (L5 id)).sum
def inE (l:List AG) (s:Int):Int:=if (0≤s∧s≤l.length-1)∧(ob l s.toNat).live=true then CI l (B6 s (ob l s.toNat).gen) else 0
theorem fQ {l:List AG} {i:Nat} {id:Int} (hi:i<l.length):CI (l.take (i+1)) id=CI (l.take i) id+L5 id (ob l i):=by
 rw [CI,List.take_succ_eq_append_getElem hi,List.map_append,List.sum_append,DL hi];simp [CI]
theorem hH {l:List Int} {j:Nat} {id:Int} (hj:j<l.length):(l.take (j+1)).count id=(l.take j).count id+if gI l j=id then 1 else 0:=by
 rw [List.take_succ_eq_append_getElem hj,List.count_append,CM hj,List.count_singleton]
 simp
theorem sN (id:Int) (o:AG):L5 id o≤o.field.length:=by
 unfold L5;split
 ·exact List.count_le_length
 ·exact Nat.zero_le _
theorem O6 {l:List AG} {id:Int} {b:Nat} (h: ∀o∈l,o.field.length≤b):CI l id≤l.length*b:=by
 induction l with
 | nil=>simp [CI]
 | cons o l ih=>
   have h1:=ih fun x hx=>h x (by simp [hx])
   have h2:=sN id o
   have h3:=h o (by simp)
   simp only [CI,List.map_cons,List.sum_cons,List.length_cons,Nat.add_mul,Nat.one_mul] at h1 ⊢
   omega
theorem nI {l:List AG} (hf: ∀o∈l,(o.field.length:Int)≤1048576) (i:Nat):((ob l i).field.length:Int)≤1048576:=by
 by_cases hi:i<l.length
 ·rw [←DL hi];exact hf _ (List.getElem_mem hi)
 ·unfold ob;rw [List.getD_eq_getElem?_getD,List.getElem?_eq_none (by omega)];simp
theorem P1 {a:List AG} {b c d:List T} {s:Int} {K:J2} (hs:F64 s) (hl:(a.length:Int)≤1048576) (hf: ∀o∈a,(o.field.length:Int)≤1048576) (h:K [I (inE a s)] []):cl2 ⟨Try.prog,w0⟩ 88 DX.sg [I s] [tR tO a,b,c,d] K:=by
 obtain ⟨s1,s2⟩:=hs
 refine DX.cl2 ?_
 unfold DX.txt
 simp only [AI,AP,AN,AS,AK,AE,AJ,AH,AM,AT,AL,AR,AO,AQ,BC,BE,BF,BJ,BL,BK,BH,AW,A5,AZ,A4,AY,AX]
 repeat' (first | refine DR ?_ | refine G5 ?_ | refine BG ?_ | refine HI (by first | with_reducible assumption | omega) ?_ | refine C7 (by first | with_reducible assumption | omega) ?_ | refine FH (by first | with_reducible assumption | omega) rfl ?_ | refine ER (by first | with_reducible assumption | omega) rfl ?_ | refine CE ?_ | refine F4 ?_ | refine JP ⟨by omega,by omega⟩ ?_ | refine UQ (by omega) (by omega) ?_ | refine HQ (by omega) (by decide) rfl ?_ | refine LD (by omega) rfl ?_ | refine NM (fun _=> ?_) (fun _=> ?_) | refine X0 (fun _=> ?_) (fun _=> ?_) | refine CY ?_ | simp only [AI,AP,AN,AS,AK,AE,AJ,AH,AM,AT,AL,AR,AO,AQ,BC,BE,BF,BJ,BL,BK,BH,AW,A5,AZ,A4,AY,AX])
 ·rw [inE,if_neg (by simp_all)] at h;exact h
 ·rename_i hin hlv
  have hin:0≤s∧s≤(a.length:Int)-1:=Decidable.not_not.1 hin
  rw [inE,if_pos ⟨hin,by simpa using hlv⟩] at h
  generalize B6 s (ob a s.toNat).gen=id at h ⊢
  refine BM (fun i=>[I (CI (a.take i) id),I id,iv i]) (fun _=>[]) a.length (fun _=>True) rfl rfl trivial (fun R i hi _ hR=> ?_)
  have he:=O6 (l:=a.take i) (id:=id) (b:=1048576) fun o ho=>by have:=hf o (List.mem_of_mem_take ho);omega
  have hln:(a.take i).length≤a.length:=by simp;omega
  have hmul:(a.take i).length*1048576≤1048576*1048576:=Nat.mul_le_mul_right _ (by omega)
  have hfo:=nI hf i
  simp only [AI,AP,AN,AS,AK,AE,AJ,AH,AM,AT,AL,AR,AO,AQ,BC,BE,BF,BJ,BL,BK,BH,AW,A5,AZ,A4,AY,AX]
  refine A9 (A7 (fun hlt=> ?_) fun hge=> ?_)
  ·have hlt:i<a.length:=by omega
   replace hR:=hR hlt trivial
   rw [fQ hlt,L5] at hR
   refine BM (fun j=>[I ((CI (a.take i) id+(if (ob a i).live=true then ((ob a i).field.take j).count id else 0):Nat):Int),I id,iv i,iv j]) (fun _=>[]) (ob a i).field.length (fun _=>True) (by simp only [List.take_zero,List.count_nil,ite_self,Nat.add_zero];rfl) rfl trivial (fun R2 j hj _ hR2=> ?_)
   have hc:((ob a i).field.take j).count id≤j:=Nat.le_trans List.count_le_length (by simp;omega)
   refine AU hlt (TJ hlt ?_)
   rw [IL hlt,AE]
   by_cases hv:(ob a i).live=true
   ·simp only [if_pos hv] at hR hR2 ⊢
    refine A9 (BG (BG (BG (ME (fun hlt2=> ?_) fun hge2=> ?_))))
    ·have hlt2':j<(ob a i).field.length:=by
      have:(j:Int)<((ob a i).field.length:Int):=hlt2
      omega
     replace hR2:=hR2 hlt2' trivial
     rw [hH hlt2'] at hR2
     refine AU hlt (BG (LN hlt2 (LD hlt rfl (FH hlt2 rfl (hZ hv (BW (AU hlt (TJ hlt ?_))))))))
     rw [IL hlt,AE]
     refine AU hlt2' (M5 hlt hlt2' (B3 (A7 (fun he=> ?_) fun he=> ?_)))
     ·rw [if_pos he] at hR2
      exact EC ⟨by omega,by omega⟩ (A8 (by omega) hR2)
     ·rw [if_neg he] at hR2
      exact A8 (by omega) hR2
    ·have:j=(ob a i).field.length:=by
      have: ¬(j:Int)<((ob a i).field.length:Int):=hge2
      omega
     subst this
     rw [List.take_length] at hc ⊢
     exact BG (PX hge2 (ER hge2 rfl (B5 (A8 (by omega) hR))))
   ·have hv:(ob a i).live=false:=by simpa using hv
    simp only [hv,Bool.false_eq_true,if_false] at hR hR2 ⊢
    refine A9 (BG (BG (BG (ME (fun hlt2=> ?_) fun hge2=> ?_))))
    ·exact AU hlt (BG (LN hlt2 (LD hlt (v:= .bool false) (by rw [←hv];rfl) (FH hlt2 rfl (B5 (A8 (by omega) hR))))))
    ·exact BG (PX hge2 (ER hge2 rfl (B5 (A8 (by omega) hR))))
  ·have:i=a.length:=by omega
   subst this
   rw [List.take_length];exact h
 ·rw [inE,if_neg (by rintro ⟨h1,h2⟩;simp_all)] at h;exact h
theorem ZG {l:List Int} {i:Nat} {x:Int} (hi:i<l.length) (h:x∉l.take i) (hn:gI l i≠x):x∉l.take (i+1):=by
 rw [List.take_succ_eq_append_getElem hi,CM hi]
 simp only [List.mem_append,List.mem_singleton,not_or]
 exact ⟨h,fun he=>hn he.symm⟩
theorem CH {l:List Int} {i:Nat} (h:i<l.length):gI l i∈l:=by rw [←CM h];exact List.getElem_mem h
theorem IQ {l:List Int} {x:Int} {K:J2} (hl:(l.length:Int)<2^62) (h:K [.bool (decide (x∈l))] []):cl2 ⟨Try.prog,w0⟩ 91 CO.sg [I x] [tI l] K:=by
 refine CO.cl2 ?_
 unfold CO.txt
 simp only [AI,AP,AN,AS,AK,AE,AJ,AH,AM,AT,AL,AR,AO,AQ,BC,BE,BF,BJ,BL,BK,BH,AW,A5,AZ,A4,AY,AX]
 refine BM (fun i=>[I x,iv l.length,iv i]) (fun _=>[]) l.length (fun i=>x∉l.take i) rfl rfl (by simp) (fun R i hi hP hR=> ?_)
 refine A9 (A7 (fun hlt=> ?_) fun hge=> ?_)
 ·have hlt:i<l.length:=by omega
  refine AU hlt (ldI hlt (B3 (A7 (fun he=> ?_) fun he=> ?_)))
  ·rw [decide_eq_true (he ▸ CH hlt)] at h;exact h
  ·exact A8 (by omega) (hR hlt (ZG hlt hP he))
 ·have:i=l.length:=by omega
  subst this
  rw [List.take_length] at hP
  rw [decide_eq_false hP] at h;exact h
theorem FP {l:List Int} {x:Int} {K:J2} (hl:(l.length:Int)<2^62) (h:K [.bool (decide (x∈l))] []):cl2 ⟨Try.prog,w0⟩ 89 B7.sg [I x] [tI l] K:=by
 refine B7.cl2 ?_
 unfold B7.txt
 simp only [AI,AP,AN,AS,AK,AE,AJ,AH,AM,AT,AL,AR,AO,AQ,BC,BE,BF,BJ,BL,BK,BH,AW,A5,AZ,A4,AY,AX]
 refine BM (fun i=>[I x,iv i]) (fun _=>[]) l.length (fun i=>x∉l.take i) rfl rfl (by simp) (fun R i hi hP hR=> ?_)
 refine A9 (A7 (fun hlt=> ?_) fun hge=> ?_)
 ·have hlt:i<l.length:=by omega
  refine AU hlt (ldI hlt (B3 (A7 (fun he=> ?_) fun he=> ?_)))
  ·rw [decide_eq_true (he ▸ CH hlt)] at h;exact h
  ·exact A8 (by omega) (hR hlt (ZG hlt hP he))
 ·have:i=l.length:=by omega
  subst this
  rw [List.take_length] at hP
  rw [decide_eq_false hP] at h;exact h
attribute [irreducible] inE CI
end Go.Proofs.Ytklmcfpgdfibnaa.P
namespace Go.Proofs.Ytklmcfpgdfibnaa.P
open Go Go.Proofs.Ytklmcfpgdfibnaa Go.Proofs.Ytklmcfpgdfibnaa.Eng
set_option linter.unusedVariables false
def inB (n lo hi:Int):Bool:=decide (n≥lo)&&decide (n≤hi)
def PW (n:Int):Bool:=inB n (-1000000000) 1000000000
def vB (a b c d:Int) (s:ByteArray):Bool:=(((PW a&&PW b)&&PW c)&&PW d)&&decide ((s.size:Int)≤8)
def yH (c v:Int) (l:List Int):Bool:=(inB c 0 6&&PW v&&decide (l.length≤8))&&l.all PW
end Go.Proofs.Ytklmcfpgdfibnaa.P
namespace Go.Proofs.Ytklmcfpgdfibnaa.P
open Go Go.Proofs.Ytklmcfpgdfibnaa Go.Proofs.Ytklmcfpgdfibnaa.Eng
set_option linter.unusedVariables false
def M9 (l:List Nat):ByteArray:=l.foldl (fun b n=>b.push (UInt8.ofNat n)) ByteArray.empty
theorem eK (l:List Nat):(M9 l).size=l.length:=by
 have: ∀(l:List Nat) (b:ByteArray),(l.foldl (fun b n=>b.push (UInt8.ofNat n)) b).size=b.size+l.length:=by
  intro l
  induction l with
  | nil=>intro b;rfl
  | cons a l ih=>intro b;rw [List.foldl_cons,ih,ByteArray.size_push,List.length_cons];omega
 rw [M9,this];simp
def vd:Nat→Nat→List Nat
 | 0,n=>[n]
 | k+1,n=>if n≥128 then (128+n % 128)::vd k (n/128) else [n]
theorem oQ: ∀k n,(vd k n).length≤k+1
 | 0,n=>by simp [vd]
 | k+1,n=>by
   unfold vd;split
   ·have:=oQ k (n/128);simp only [List.length_cons];omega
   ·simp
def V (n:Int):ByteArray:=if inB n 0 562949953421311 then M9 (vd 6 n.toNat) else ⟨#[]⟩
theorem RZ (n:Int):(V n).size≤7:=by
 unfold V;split
 ·rw [eK];exact oQ 6 _
 ·exact Nat.zero_le _
attribute [irreducible] V
end Go.Proofs.Ytklmcfpgdfibnaa.P
namespace Go.Proofs.Ytklmcfpgdfibnaa.P
open Go Go.Proofs.Ytklmcfpgdfibnaa Go.Proofs.Ytklmcfpgdfibnaa.Eng
set_option linter.unusedVariables false
def zg (n:Int):Int:=if inB n (-100000000000000) 100000000000000 then (if n<0 then -2*n-1 else 2*n) else -1
theorem kS {n lo hi:Int}:inB n lo hi=true↔lo≤n∧n≤hi:=by simp [inB]
def SI (n:Int):ByteArray:=V (zg n)
def ST (s:ByteArray):ByteArray:=if (s.size:Int)>8 then ⟨#[]⟩ else V s.size++s
theorem rD (s:ByteArray):(ST s).size≤15:=by
 unfold ST;split
 ·exact Nat.zero_le _
 ·have:=RZ s.size
  rw [ByteArray.size_append];omega
instance :LawfulBEq ByteArray where
 eq_of_beq {a b} h:=by
  cases a;cases b
  have h:_==_:=h
  first | exact congrArg _ (eq_of_beq h) | (simp [BEq.beq,instBEqByteArray.beq] at h;simpa using h) | (simp_all)
 rfl {a}:=by
  cases a
  first | exact beq_self_eq_true (α:=Array UInt8) _ | (show ByteArray.beq _ _=true;unfold ByteArray.beq;simp) | (simp [BEq.beq,ByteArray.beq])
def at_ (l:List ByteArray) (s:ByteArray):Int:=if s∈l then (l.idxOf s:Int) else -1
end Go.Proofs.Ytklmcfpgdfibnaa.P
namespace Go.Proofs.Ytklmcfpgdfibnaa.P
open Go Go.Proofs.Ytklmcfpgdfibnaa Go.Proofs.Ytklmcfpgdfibnaa.Eng
set_option linter.unusedVariables false
def szB (s:ByteArray):Bool:=decide ((s.size:Int)≤8)
def xW (l:List ByteArray):Bool:=l.all szB&&decide l.Nodup
def zB (n:Int) (l:List ByteArray):Bool:=(PW n&&decide (l.length≤400))&&xW l
theorem nD {n i:Nat} (hi:i≤n) {K:Value→Value→Prop} (h:K (iv 0) (iv i)):scW n none (some (iv i)) K:=
 ⟨0,i,rfl,by simp [bnd,iv],Nat.zero_le _,hi,h⟩
def oG (l:List ByteArray) (s:ByteArray):ByteArray:=if s∈l then V (at_ l s+1) else V 0++ST s
def yG (l:List ByteArray) (s:ByteArray):List ByteArray:=if s∈l then l else l++[s]
end Go.Proofs.Ytklmcfpgdfibnaa.P
namespace Go.Proofs.Ytklmcfpgdfibnaa.P
open Go Go.Proofs.Ytklmcfpgdfibnaa Go.Proofs.Ytklmcfpgdfibnaa.Eng
set_option maxHeartbeats 4000000
set_option linter.unusedVariables false
set_option linter.unusedSimpArgs false
attribute [local irreducible] prP gP gE gF A6 ixW ldc ldg ldl stc stg scW mkW apW BD cl2 BP C3 B9
variable {w0:World}
theorem rI {a:List AG} {i:Nat} (hi:i<a.length):tR tO (a.take i)++[T.c (.bool (ob a i).live), .c (I (ob a i).gen), .c (I (ob a i).site), .c (I (ob a i).holds), .c (I (ob a i).roots), .c (I (ob a i).count), .l 1 (tI (ob a i).field), .c (.bool (ob a i).purple)]=tR tO (a.take (i+1)):=by
 rw [List.take_succ_eq_append_getElem hi,DL hi]
 exact sP _ (ob a i)
theorem KI {h:Hp} {K:J2} (hf:Fits h) (hk:K [] (trees h)):cl2 ⟨Try.prog,w0⟩ 122 C8.sg [] (trees h) K:=by
 obtain ⟨a,b,c,d⟩:=h
 have g1:=hf.ol;have g2:=hf.wl;have g3:=hf.sl;have g4:=hf.bl
 simp only at g1 g2 g3 g4
 refine C8.cl2 ?_
 unfold C8.txt
 simp only [AI,AP,AN,AS,AK,AE,AJ,AH,AM,AT,AL,AR,AO,AQ,BC,BE,BF,BJ,BL,BK,BH,AW,A5,AZ,A4,AY,AX]
 refine DG (aW _) (by simp only [cnt,List.length_nil];omega) (DG (KH _) (by omega) (DG (ZZ _) (by omega) ?_))
 refine BM (fun i=>[iv i]) (fun i=>[tR tO (a.take i),tR tW b,tI c,tS d]) a.length (fun _=>True) rfl rfl trivial (fun R i hi hP hR=> ?_)
 simp only [AI,AP,AN,AS,AK,AE,AJ,AH,AM,AT,AL,AR,AO,AQ,BC,BE,BF,BJ,BL,BK,BH,AW,A5,AZ,A4,AY,AX]
 refine A9 (A7 (fun hlt=> ?_) fun hge=> ?_)
 ·have hlt:i<a.length:=by omega
  have hfo:((ob a i).field.length:Int)≤1048576:=xN (l:=a) hf.of hlt
  have hln:(a.take i).length=i:=by simp;omega
  replace hR:=hR hlt trivial
  refine AU hlt (UA hlt ?_)
  rw [IL hlt]
  refine DG (KH _) (by first | omega | (simp only [AI,AP,AN,AS,AK,AE,AJ,AH,AM,AT,AL,AR,AO,AQ,BC,BE,BF,BJ,BL,BK,BH,AW,A5,AZ,A4,AY,AX];omega)) (US (by rw [hln];omega) (A8 (by omega) ?_))
  rw [←rI hlt] at hR
  exact hR
 ·have:i=a.length:=by omega
  subst this
  rw [List.take_length];exact hk
structure MG (l:List ByteArray):Prop where
 len:l.length≤6
 sz: ∀i,i<l.length→1≤((gS l i).size:Int)∧((gS l i).size:Int)≤8
 one: ∀i,i<l.length→gS l i∉l.take i
theorem hI {l:List ByteArray} {i:Nat} {x:ByteArray} (hi:i<l.length) (h:x∉l.take i) (hn:gS l i≠x):x∉l.take (i+1):=by
 rw [List.take_succ_eq_append_getElem hi,SX hi]
 simp only [List.mem_append,List.mem_singleton,not_or]
 exact ⟨h,fun he=>hn he.symm⟩
structure UY (h:Hp) (i:Nat):Prop where
 gen:0≤(ob h.AA i).gen∧(ob h.AA i).gen≤999
 len:(ob h.AA i).field.length=3
 lead: ∀j,j<3→gI (ob h.AA i).field j≠ -1→(ob h.AA i).live=true∧0≤AB h.AA (gI (ob h.AA i).field j)
 dead:(ob h.AA i).live=false→(ob h.AA i).site=0∧(ob h.AA i).holds=0∧(ob h.AA i).roots=0∧(ob h.AA i).count=0∧(ob h.AA i).purple=false
 lv:(ob h.AA i).live=true→1≤(ob h.AA i).gen∧(0≤(ob h.AA i).site∧(ob h.AA i).site≤(h.sites.length:Int)-1)∧(0≤(ob h.AA i).holds∧(ob h.AA i).holds≤20)∧(0≤(ob h.AA i).roots∧(ob h.AA i).roots≤20)∧
  (ob h.AA i).count=(ob h.AA i).holds+(ob h.AA i).roots+inE h.AA i∧1≤(ob h.AA i).count∧(ob h.AA i).purple=decide (B6 i (ob h.AA i).gen∈h.buffer)
structure BO (h:Hp):Prop where
 ol:h.AA.length=8
 wl:h.B4.length=8
 sites:MG h.sites
 obj: ∀i,i<8→UY h i
 weak: ∀i,i<8→((wk h.B4 i).used=false→(wk h.B4 i).target=0)∧((wk h.B4 i).used=true→8≤(wk h.B4 i).target∧(wk h.B4 i).target≤7999)
 buf: ∀i,i<h.buffer.length→0≤AB h.AA (gI h.buffer i)∧gI h.buffer i∉h.buffer.take i
theorem tT {l:List Int} {P:Int→Prop} (h0:P 0) (h: ∀x∈l,P x) (i:Nat):P (gI l i):=by
 by_cases hi:i<l.length
 ·rw [←CM hi];exact h _ (List.getElem_mem hi)
 ·unfold gI;rw [List.getD_eq_getElem?_getD,List.getElem?_eq_none (by omega)];exact h0
theorem XH:F64 0:=⟨by omega,by omega⟩
theorem U4.ob {h:Hp} (hn:U4 h) (i:Nat):F64 (ob h.AA i).gen∧F64 (ob h.AA i).site∧F64 (ob h.AA i).holds∧F64 (ob h.AA i).roots∧F64 (ob h.AA i).count∧ ∀f∈(ob h.AA i).field,F64 f:=by
 by_cases hi:i<h.AA.length
 ·rw [←DL hi];exact hn.obj _ (List.getElem_mem hi)
 ·unfold Eng.ob;rw [List.getD_eq_getElem?_getD,List.getElem?_eq_none (by omega)]
  exact ⟨XH,XH,XH,XH,XH,fun f hf=>by simp at hf⟩
theorem U4.fld {h:Hp} (hn:U4 h) (i j:Nat):F64 (gI (Eng.ob h.AA i).field j):=tT XH (hn.ob i).2.2.2.2.2 j
theorem U4.bf {h:Hp} (hn:U4 h) (i:Nat):F64 (gI h.buffer i):=tT XH hn.buf i
theorem uS {l:List AG} (hl:(l.length:Int)≤1048576) (hf: ∀o∈l,(o.field.length:Int)≤1048576) (s:Int):0≤inE l s∧inE l s≤2^40:=by
 rw [inE];split
 ·have he:=O6 (l:=l) (id:=B6 s (ob l s.toNat).gen) (b:=1048576) fun o ho=>by have:=hf o ho;omega
  have hmul:l.length*1048576≤1048576*1048576:=Nat.mul_le_mul_right _ (by omega)
  omega
 ·omega
end Go.Proofs.Ytklmcfpgdfibnaa.P
