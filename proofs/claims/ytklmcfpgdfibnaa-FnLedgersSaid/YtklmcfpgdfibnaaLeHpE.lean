/- A part of the proof. -/
import Derived.Test.YtklmcfpgdfibnaaLeLawTyNode
import Derived.Test.YtklmcfpgdfibnaaLeRowT
import Derived.Test.YtklmcfpgdfibnaaLeTxtB
namespace Go.Proofs.Ytklmcfpgdfibnaa.P
open Go Go.Proofs.Ytklmcfpgdfibnaa Go.Proofs.Ytklmcfpgdfibnaa.Eng
set_option maxHeartbeats 4000000
set_option linter.unusedVariables false
set_option linter.unusedSimpArgs false
attribute [local irreducible] prP gP gE gF AJ ixW ldc ldg ldl stc stg scW mkW apW A6 cl2 BF CM CB
variable {w0:World}
structure Gr where
 nodes:List Nd
 B6:List Wk
 sites:List ByteArray
def Av (o:AE):Nd:=⟨o.live,o.gen,o.site,o.holds,o.roots,o.field⟩
def xY (h:Hp):Gr:=⟨h.AD.map Av,h.B6,h.sites⟩
theorem zE {l:List AE} {P:AE→Prop} (h: ∀o∈l,P o) {i:Nat} (hi:i<l.length):P (ob l i):=by rw [←DG hi];exact h _ (List.getElem_mem hi)
def vI (g:Gr):Int:=szL eV g.nodes+szL TY g.B6+g.sites.length
structure TG (g:Gr):Prop where
 nl:(g.nodes.length:Int)≤1048576
 nf: ∀o∈g.nodes,(o.field.length:Int)≤1048576
 wl:(g.B6.length:Int)≤1048576
 sl:(g.sites.length:Int)≤1048576
theorem TG.of {h:Hp} (hf:Fits h):TG (xY h):=by
 refine ⟨?_, ?_,hf.wl,hf.sl⟩
 ·simp only [xY,List.length_map];exact hf.ol
 ·intro o ho
  obtain ⟨x,hx,rfl⟩:=List.mem_map.1 ho
  exact hf.of x hx
theorem TG.nodes {g:Gr} (hf:TG g):0≤szL eV g.nodes∧szL eV g.nodes≤2^41:=by
 refine ⟨RF o6 _, ?_⟩
 have h1:=UZ (sz:=eV) (b:=1048581) (l:=g.nodes) fun o ho=>by have:=hf.nf o ho;unfold eV;omega
 have h2:=hf.nl
 have h3:(g.nodes.length:Int)*1048581≤1048576*1048581:=Int.mul_le_mul_of_nonneg_right h2 (by omega)
 omega
theorem TG.B6 {g:Gr} (hf:TG g):0≤szL TY g.B6∧szL TY g.B6≤2^41:=by
 refine ⟨RF bK _, ?_⟩
 have h1:=UZ (sz:=TY) (b:=2) (l:=g.B6) fun o ho=>by unfold TY;omega
 have h2:=hf.wl
 omega
theorem TG.sz {g:Gr} (hf:TG g):0≤vI g∧vI g≤2^43:=by
 have h1:=hf.nodes;have h2:=hf.B6;have h4:=hf.sl
 unfold vI;omega
end Go.Proofs.Ytklmcfpgdfibnaa.P
namespace Go.Proofs.Ytklmcfpgdfibnaa.P
open Go Go.Proofs.Ytklmcfpgdfibnaa Go.Proofs.Ytklmcfpgdfibnaa.Eng
set_option maxHeartbeats 4000000
set_option linter.unusedVariables false
set_option linter.unusedSimpArgs false
attribute [local irreducible] prP gP gE gF AJ ixW ldc ldg ldl stc stg scW mkW apW A6 cl2 BF CM CB
variable {w0:World}
def NF (id:Int) (o:AE):Nat:=if o.live=true then o.field.count id else 0
def CD (l:List AE) (id:Int):Nat:=(l.map (NF id)).sum
def inE (l:List AE) (s:Int):Int:=if (0≤s∧s≤l.length-1)∧(ob l s.toNat).live=true then CD l (B2 s (ob l s.toNat).gen) else 0
theorem fD {l:List AE} {i:Nat} {id:Int} (hi:i<l.length):CD (l.take (i+1)) id=CD (l.take i) id+NF id (ob l i):=by
 rw [CD,List.take_succ_eq_append_getElem hi,List.map_append,List.sum_append,DG hi];simp [CD]
theorem gJ {l:List Int} {j:Nat} {id:Int} (hj:j<l.length):(l.take (j+1)).count id=(l.take j).count id+if gI l j=id then 1 else 0:=by
 rw [List.take_succ_eq_append_getElem hj,List.count_append,EN hj,List.count_singleton]
 simp
theorem rC (id:Int) (o:AE):NF id o≤o.field.length:=by
 unfold NF;split
 ·exact List.count_le_length
 ·exact Nat.zero_le _
theorem OJ {l:List AE} {id:Int} {b:Nat} (h: ∀o∈l,o.field.length≤b):CD l id≤l.length*b:=by
 induction l with
 | nil=>simp [CD]
 | cons o l ih=>
   have h1:=ih fun x hx=>h x (by simp [hx])
   have h2:=rC id o
   have h3:=h o (by simp)
   simp only [CD,List.map_cons,List.sum_cons,List.length_cons,Nat.add_mul,Nat.one_mul] at h1 ⊢
   omega
theorem mQ {l:List AE} (hf: ∀o∈l,(o.field.length:Int)≤1048576) (i:Nat):((ob l i).field.length:Int)≤1048576:=by
 by_cases hi:i<l.length
 ·rw [←DG hi];exact hf _ (List.getElem_mem hi)
 ·unfold ob;rw [List.getD_eq_getElem?_getD,List.getElem?_eq_none (by omega)];simp
theorem OE {a:List AE} {b c d:List T} {s:Int} {K:J2} (hs:F64 s) (hl:(a.length:Int)≤1048576) (hf: ∀o∈a,(o.field.length:Int)≤1048576) (h:K [I (inE a s)] []):cl2 ⟨Try.prog,w0⟩ 88 DN.sg [I s] [tR tO a,b,c,d] K:=by
 obtain ⟨s1,s2⟩:=hs
 refine DN.cl2 ?_
 unfold DN.txt
 simp only [AN,AV,AK,AM,AU,AH,AL,AW,AO,AR,AS,AQ,AT,AP,BQ,BU,BY,BX,BZ,BW,BT,A7,BA,BB,A9,BC,A8]
 repeat' (first | refine DB ?_ | refine IP ?_ | refine BH ?_ | refine TD (by first | with_reducible assumption | omega) ?_ | refine G6 (by first | with_reducible assumption | omega) ?_ | refine GC (by first | with_reducible assumption | omega) rfl ?_ | refine F7 (by first | with_reducible assumption | omega) rfl ?_ | refine CU ?_ | refine G5 ?_ | refine F8 ⟨by omega,by omega⟩ ?_ | refine V3 (by omega) (by omega) ?_ | refine KC (by omega) (by decide) rfl ?_ | refine KL (by omega) rfl ?_ | refine OK (fun _=> ?_) (fun _=> ?_) | refine aP (fun _=> ?_) (fun _=> ?_) | refine EJ ?_ | simp only [AN,AV,AK,AM,AU,AH,AL,AW,AO,AR,AS,AQ,AT,AP,BQ,BU,BY,BX,BZ,BW,BT,A7,BA,BB,A9,BC,A8])
 ·rw [inE,if_neg (by simp_all)] at h;exact h
 ·rename_i hin hlv
  have hin:0≤s∧s≤(a.length:Int)-1:=Decidable.not_not.1 hin
  rw [inE,if_pos ⟨hin,by simpa using hlv⟩] at h
  generalize B2 s (ob a s.toNat).gen=id at h ⊢
  refine BK (fun i=>[I (CD (a.take i) id),I id,iv i]) (fun _=>[]) a.length (fun _=>True) rfl rfl trivial (fun R i hi _ hR=> ?_)
  have he:=OJ (l:=a.take i) (id:=id) (b:=1048576) fun o ho=>by have:=hf o (List.mem_of_mem_take ho);omega
  have hln:(a.take i).length≤a.length:=by simp;omega
  have hmul:(a.take i).length*1048576≤1048576*1048576:=Nat.mul_le_mul_right _ (by omega)
  have hfo:=mQ hf i
  simp only [AN,AV,AK,AM,AU,AH,AL,AW,AO,AR,AS,AQ,AT,AP,BQ,BU,BY,BX,BZ,BW,BT,A7,BA,BB,A9,BC,A8]
  refine A4 (AY (fun hlt=> ?_) fun hge=> ?_)
  ·have hlt:i<a.length:=by omega
   replace hR:=hR hlt trivial
   rw [fD hlt,NF] at hR
   refine BK (fun j=>[I ((CD (a.take i) id+(if (ob a i).live=true then ((ob a i).field.take j).count id else 0):Nat):Int),I id,iv i,iv j]) (fun _=>[]) (ob a i).field.length (fun _=>True) (by simp only [List.take_zero,List.count_nil,ite_self,Nat.add_zero];rfl) rfl trivial (fun R2 j hj _ hR2=> ?_)
   have hc:((ob a i).field.take j).count id≤j:=Nat.le_trans List.count_le_length (by simp;omega)
   refine AG hlt (dT hlt ?_)
   rw [KY hlt,AH]
   by_cases hv:(ob a i).live=true
   ·simp only [if_pos hv] at hR hR2 ⊢
    refine A4 (BH (BH (BH (NV (fun hlt2=> ?_) fun hge2=> ?_))))
    ·have hlt2':j<(ob a i).field.length:=by
      have:(j:Int)<((ob a i).field.length:Int):=hlt2
      omega
     replace hR2:=hR2 hlt2' trivial
     rw [gJ hlt2'] at hR2
     refine AG hlt (BH (PW hlt2 (KL hlt rfl (GC hlt2 rfl (j7 hv (BV (AG hlt (dT hlt ?_))))))))
     rw [KY hlt,AH]
     refine AG hlt2' (QO hlt hlt2' (BM (AY (fun he=> ?_) fun he=> ?_)))
     ·rw [if_pos he] at hR2
      exact EB ⟨by omega,by omega⟩ (BD (by omega) hR2)
     ·rw [if_neg he] at hR2
      exact BD (by omega) hR2
    ·have:j=(ob a i).field.length:=by
      have: ¬(j:Int)<((ob a i).field.length:Int):=hge2
      omega
     subst this
     rw [List.take_length] at hc ⊢
     exact BH (VP hge2 (F7 hge2 rfl (B7 (BD (by omega) hR))))
   ·have hv:(ob a i).live=false:=by simpa using hv
    simp only [hv,Bool.false_eq_true,if_false] at hR hR2 ⊢
    refine A4 (BH (BH (BH (NV (fun hlt2=> ?_) fun hge2=> ?_))))
    ·exact AG hlt (BH (PW hlt2 (KL hlt (v:= .bool false) (by rw [←hv];rfl) (GC hlt2 rfl (B7 (BD (by omega) hR))))))
    ·exact BH (VP hge2 (F7 hge2 rfl (B7 (BD (by omega) hR))))
  ·have:i=a.length:=by omega
   subst this
   rw [List.take_length];exact h
 ·rw [inE,if_neg (by rintro ⟨h1,h2⟩;simp_all)] at h;exact h
theorem mA {l:List Int} {i:Nat} {x:Int} (hi:i<l.length) (h:x∉l.take i) (hn:gI l i≠x):x∉l.take (i+1):=by
 rw [List.take_succ_eq_append_getElem hi,EN hi]
 simp only [List.mem_append,List.mem_singleton,not_or]
 exact ⟨h,fun he=>hn he.symm⟩
theorem ER {l:List Int} {i:Nat} (h:i<l.length):gI l i∈l:=by rw [←EN h];exact List.getElem_mem h
theorem M7 {l:List Int} {x:Int} {K:J2} (hl:(l.length:Int)<2^62) (h:K [.bool (decide (x∈l))] []):cl2 ⟨Try.prog,w0⟩ 89 EM.sg [I x] [tI l] K:=by
 refine EM.cl2 ?_
 unfold EM.txt
 simp only [AN,AV,AK,AM,AU,AH,AL,AW,AO,AR,AS,AQ,AT,AP,BQ,BU,BY,BX,BZ,BW,BT,A7,BA,BB,A9,BC,A8]
 refine BK (fun i=>[I x,iv i]) (fun _=>[]) l.length (fun i=>x∉l.take i) rfl rfl (by simp) (fun R i hi hP hR=> ?_)
 refine A4 (AY (fun hlt=> ?_) fun hge=> ?_)
 ·have hlt:i<l.length:=by omega
  refine AG hlt (ldI hlt (BM (AY (fun he=> ?_) fun he=> ?_)))
  ·rw [decide_eq_true (he ▸ ER hlt)] at h;exact h
  ·exact BD (by omega) (hR hlt (mA hlt hP he))
 ·have:i=l.length:=by omega
  subst this
  rw [List.take_length] at hP
  rw [decide_eq_false hP] at h;exact h
attribute [irreducible] inE CD
end Go.Proofs.Ytklmcfpgdfibnaa.P
namespace Go.Proofs.Ytklmcfpgdfibnaa.P
open Go Go.Proofs.Ytklmcfpgdfibnaa Go.Proofs.Ytklmcfpgdfibnaa.Eng
set_option linter.unusedVariables false
def inB (n lo hi:Int):Bool:=decide (n≥lo)&&decide (n≤hi)
def OG (n:Int):Bool:=inB n (-1000000000) 1000000000
def xD (a b c d:Int) (s:ByteArray):Bool:=(((OG a&&OG b)&&OG c)&&OG d)&&decide ((s.size:Int)≤8)
def zV (c v:Int) (l:List Int):Bool:=(inB c 0 6&&OG v&&decide (l.length≤8))&&l.all OG
end Go.Proofs.Ytklmcfpgdfibnaa.P
namespace Go.Proofs.Ytklmcfpgdfibnaa.P
open Go Go.Proofs.Ytklmcfpgdfibnaa Go.Proofs.Ytklmcfpgdfibnaa.Eng
set_option linter.unusedVariables false
def LY (l:List Nat):ByteArray:=l.foldl (fun b n=>b.push (UInt8.ofNat n)) ByteArray.empty
theorem cB (l:List Nat):(LY l).size=l.length:=by
 have: ∀(l:List Nat) (b:ByteArray),(l.foldl (fun b n=>b.push (UInt8.ofNat n)) b).size=b.size+l.length:=by
  intro l
  induction l with
  | nil=>intro b;rfl
  | cons a l ih=>intro b;rw [List.foldl_cons,ih,ByteArray.size_push,List.length_cons];omega
 rw [LY,this];simp
def vd:Nat→Nat→List Nat
 | 0,n=>[n]
 | k+1,n=>if n≥128 then (128+n % 128)::vd k (n/128) else [n]
theorem oH: ∀k n,(vd k n).length≤k+1
 | 0,n=>by simp [vd]
 | k+1,n=>by
   unfold vd;split
   ·have:=oH k (n/128);simp only [List.length_cons];omega
   ·simp
def V (n:Int):ByteArray:=if inB n 0 562949953421311 then LY (vd 6 n.toNat) else ⟨#[]⟩
theorem P6 (n:Int):(V n).size≤7:=by
 unfold V;split
 ·rw [cB];exact oH 6 _
 ·exact Nat.zero_le _
attribute [irreducible] V
end Go.Proofs.Ytklmcfpgdfibnaa.P
namespace Go.Proofs.Ytklmcfpgdfibnaa.P
open Go Go.Proofs.Ytklmcfpgdfibnaa Go.Proofs.Ytklmcfpgdfibnaa.Eng
set_option linter.unusedVariables false
def zg (n:Int):Int:=if inB n (-100000000000000) 100000000000000 then (if n<0 then -2*n-1 else 2*n) else -1
theorem hZ {n lo hi:Int}:inB n lo hi=true↔lo≤n∧n≤hi:=by simp [inB]
def SI (n:Int):ByteArray:=V (zg n)
def ST (s:ByteArray):ByteArray:=if (s.size:Int)>8 then ⟨#[]⟩ else V s.size++s
theorem tB (s:ByteArray):(ST s).size≤15:=by
 unfold ST;split
 ·exact Nat.zero_le _
 ·have:=P6 s.size
  rw [ByteArray.size_append];omega
instance :LawfulBEq ByteArray where
 eq_of_beq {a b} h:=by
  cases a;cases b
  have h:_==_:=h
  first | exact congrArg _ (eq_of_beq h) | (simp [BEq.beq,instBEqByteArray.beq] at h;simpa using h) | (simp_all)
 rfl {a}:=by
  cases a
  first | exact beq_self_eq_true (α:=Array UInt8) _ | (show ByteArray.beq _ _=true;unfold ByteArray.beq;simp) | (simp [BEq.beq,ByteArray.beq])
def at_ (l:List ByteArray) (s:ByteArray):Int:=if s∈l then (l.idxOf s:Int) else -1
end Go.Proofs.Ytklmcfpgdfibnaa.P
namespace Go.Proofs.Ytklmcfpgdfibnaa.P
open Go Go.Proofs.Ytklmcfpgdfibnaa Go.Proofs.Ytklmcfpgdfibnaa.Eng
set_option linter.unusedVariables false
def szB (s:ByteArray):Bool:=decide ((s.size:Int)≤8)
def zA (l:List ByteArray):Bool:=l.all szB&&decide l.Nodup
def xZ (n:Int) (l:List ByteArray):Bool:=(OG n&&decide (l.length≤400))&&zA l
theorem oG {n i:Nat} (hi:i≤n) {K:Value→Value→Prop} (h:K (iv 0) (iv i)):scW n none (some (iv i)) K:=
 ⟨0,i,rfl,by simp [bnd,iv],Nat.zero_le _,hi,h⟩
def nZ (l:List ByteArray) (s:ByteArray):ByteArray:=if s∈l then V (at_ l s+1) else V 0++ST s
def Ac (l:List ByteArray) (s:ByteArray):List ByteArray:=if s∈l then l else l++[s]
end Go.Proofs.Ytklmcfpgdfibnaa.P
namespace Go.Proofs.Ytklmcfpgdfibnaa.P
open Go Go.Proofs.Ytklmcfpgdfibnaa Go.Proofs.Ytklmcfpgdfibnaa.Eng
set_option maxHeartbeats 4000000
set_option linter.unusedVariables false
set_option linter.unusedSimpArgs false
attribute [local irreducible] prP gP gE gF AJ ixW ldc ldg ldl stc stg scW mkW apW A6 cl2 BF CM CB
variable {w0:World}
theorem rL {a:List AE} {i:Nat} (hi:i<a.length):tR tO (a.take i)++[T.c (.bool (ob a i).live), .c (I (ob a i).gen), .c (I (ob a i).site), .c (I (ob a i).holds), .c (I (ob a i).roots), .c (I (ob a i).count), .l 1 (tI (ob a i).field), .c (.bool (ob a i).purple)]=tR tO (a.take (i+1)):=by
 rw [List.take_succ_eq_append_getElem hi,DG hi]
 exact uB _ (ob a i)
theorem JX {h:Hp} {K:J2} (hf:Fits h) (hk:K [] (trees h)):cl2 ⟨Try.prog,w0⟩ 122 CV.sg [] (trees h) K:=by
 obtain ⟨a,b,c,d⟩:=h
 have g1:=hf.ol;have g2:=hf.wl;have g3:=hf.sl;have g4:=hf.bl
 simp only at g1 g2 g3 g4
 refine CV.cl2 ?_
 unfold CV.txt
 simp only [AN,AV,AK,AM,AU,AH,AL,AW,AO,AR,AS,AQ,AT,AP,BQ,BU,BY,BX,BZ,BW,BT,A7,BA,BB,A9,BC,A8]
 refine GN (rG _) (by simp only [cnt,List.length_nil];omega) (GN (OW _) (by omega) (GN (uD _) (by omega) ?_))
 refine BK (fun i=>[iv i]) (fun i=>[tR tO (a.take i),tR tW b,tI c,tS d]) a.length (fun _=>True) rfl rfl trivial (fun R i hi hP hR=> ?_)
 simp only [AN,AV,AK,AM,AU,AH,AL,AW,AO,AR,AS,AQ,AT,AP,BQ,BU,BY,BX,BZ,BW,BT,A7,BA,BB,A9,BC,A8]
 refine A4 (AY (fun hlt=> ?_) fun hge=> ?_)
 ·have hlt:i<a.length:=by omega
  have hfo:((ob a i).field.length:Int)≤1048576:=zE (l:=a) hf.of hlt
  have hln:(a.take i).length=i:=by simp;omega
  replace hR:=hR hlt trivial
  refine AG hlt (eE hlt ?_)
  rw [KY hlt]
  refine GN (OW _) (by first | omega | (simp only [AN,AV,AK,AM,AU,AH,AL,AW,AO,AR,AS,AQ,AT,AP,BQ,BU,BY,BX,BZ,BW,BT,A7,BA,BB,A9,BC,A8];omega)) (uI (by rw [hln];omega) (BD (by omega) ?_))
  rw [←rL hlt] at hR
  exact hR
 ·have:i=a.length:=by omega
  subst this
  rw [List.take_length];exact hk
structure LQ (l:List ByteArray):Prop where
 len:l.length≤6
 sz: ∀i,i<l.length→1≤((gS l i).size:Int)∧((gS l i).size:Int)≤8
 one: ∀i,i<l.length→gS l i∉l.take i
theorem eY {l:List ByteArray} {i:Nat} {x:ByteArray} (hi:i<l.length) (h:x∉l.take i) (hn:gS l i≠x):x∉l.take (i+1):=by
 rw [List.take_succ_eq_append_getElem hi,PV hi]
 simp only [List.mem_append,List.mem_singleton,not_or]
 exact ⟨h,fun he=>hn he.symm⟩
structure S4 (h:Hp) (i:Nat):Prop where
 gen:0≤(ob h.AD i).gen∧(ob h.AD i).gen≤999
 len:(ob h.AD i).field.length=3
 lead: ∀j,j<3→gI (ob h.AD i).field j≠ -1→(ob h.AD i).live=true∧0≤AA h.AD (gI (ob h.AD i).field j)
 dead:(ob h.AD i).live=false→(ob h.AD i).site=0∧(ob h.AD i).holds=0∧(ob h.AD i).roots=0∧(ob h.AD i).count=0∧(ob h.AD i).purple=false
 lv:(ob h.AD i).live=true→1≤(ob h.AD i).gen∧(0≤(ob h.AD i).site∧(ob h.AD i).site≤(h.sites.length:Int)-1)∧(0≤(ob h.AD i).holds∧(ob h.AD i).holds≤20)∧(0≤(ob h.AD i).roots∧(ob h.AD i).roots≤20)∧
  (ob h.AD i).count=(ob h.AD i).holds+(ob h.AD i).roots+inE h.AD i∧1≤(ob h.AD i).count∧(ob h.AD i).purple=decide (B2 i (ob h.AD i).gen∈h.buffer)
structure BO (h:Hp):Prop where
 ol:h.AD.length=8
 wl:h.B6.length=8
 sites:LQ h.sites
 obj: ∀i,i<8→S4 h i
 weak: ∀i,i<8→((wk h.B6 i).used=false→(wk h.B6 i).target=0)∧((wk h.B6 i).used=true→8≤(wk h.B6 i).target∧(wk h.B6 i).target≤7999)
 buf: ∀i,i<h.buffer.length→0≤AA h.AD (gI h.buffer i)∧gI h.buffer i∉h.buffer.take i
theorem u5 {l:List Int} {P:Int→Prop} (h0:P 0) (h: ∀x∈l,P x) (i:Nat):P (gI l i):=by
 by_cases hi:i<l.length
 ·rw [←EN hi];exact h _ (List.getElem_mem hi)
 ·unfold gI;rw [List.getD_eq_getElem?_getD,List.getElem?_eq_none (by omega)];exact h0
theorem W6:F64 0:=⟨by omega,by omega⟩
theorem V5.ob {h:Hp} (hn:V5 h) (i:Nat):F64 (ob h.AD i).gen∧F64 (ob h.AD i).site∧F64 (ob h.AD i).holds∧F64 (ob h.AD i).roots∧F64 (ob h.AD i).count∧ ∀f∈(ob h.AD i).field,F64 f:=by
 by_cases hi:i<h.AD.length
 ·rw [←DG hi];exact hn.obj _ (List.getElem_mem hi)
 ·unfold Eng.ob;rw [List.getD_eq_getElem?_getD,List.getElem?_eq_none (by omega)]
  exact ⟨W6,W6,W6,W6,W6,fun f hf=>by simp at hf⟩
theorem V5.fld {h:Hp} (hn:V5 h) (i j:Nat):F64 (gI (Eng.ob h.AD i).field j):=u5 W6 (hn.ob i).2.2.2.2.2 j
theorem V5.bf {h:Hp} (hn:V5 h) (i:Nat):F64 (gI h.buffer i):=u5 W6 hn.buf i
theorem wT {l:List AE} (hl:(l.length:Int)≤1048576) (hf: ∀o∈l,(o.field.length:Int)≤1048576) (s:Int):0≤inE l s∧inE l s≤2^40:=by
 rw [inE];split
 ·have he:=OJ (l:=l) (id:=B2 s (ob l s.toNat).gen) (b:=1048576) fun o ho=>by have:=hf o ho;omega
  have hmul:l.length*1048576≤1048576*1048576:=Nat.mul_le_mul_right _ (by omega)
  omega
 ·omega
end Go.Proofs.Ytklmcfpgdfibnaa.P
