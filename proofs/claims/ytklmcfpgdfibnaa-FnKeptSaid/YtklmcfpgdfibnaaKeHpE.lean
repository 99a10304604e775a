/- A part of the proof. -/
import Derived.Test.YtklmcfpgdfibnaaKeLawTyNode
import Derived.Test.YtklmcfpgdfibnaaKeRowT
import Derived.Test.YtklmcfpgdfibnaaKeTxtB
namespace Go.Proofs.Ytklmcfpgdfibnaa.P
open Go Go.Proofs.Ytklmcfpgdfibnaa Go.Proofs.Ytklmcfpgdfibnaa.Eng
set_option maxHeartbeats 4000000
set_option linter.unusedVariables false
set_option linter.unusedSimpArgs false
attribute [local irreducible] prP gP gE gF AX ixW ldc ldg ldl stc stg scW mkW apW BE cl2 BS DF CB
variable {w0:World}
structure Gr where
 nodes:List Nd
 BW:List Wk
 sites:List ByteArray
abbrev tD (g:Gr):List (List T):=[tR tN g.nodes,tR tW g.BW,tS g.sites]
def HE (o:AU):Nd:=⟨o.live,o.gen,o.site,o.holds,o.roots,o.field⟩
def vU (h:Hp):Gr:=⟨h.AD.map HE,h.BW,h.sites⟩
theorem IY {l:List Int} {K:J2} (hl:(l.length:Int)≤2^40) (h:K [] [tI l]):cl2 ⟨Try.prog,w0⟩ 141 CV.sg [] [tI l] K:=by
 refine CV.cl2 ?_
 unfold CV.txt
 simp only [AI,AO,AM,AS,AH,AE,AG,AK,AN,AP,AR,AT,AQ,AL,BD,BJ,BL,BK,BM,BN,BG,A4,AZ,A6,A8,A5,A7]
 refine DC (KZ l) (by omega) ?_
 rw [List.nil_append];exact h
theorem U9 {l:List ByteArray} {K:J2} (hl:(l.length:Int)≤2^40) (h:K [] [tS l]):cl2 ⟨Try.prog,w0⟩ 142 EU.sg [] [tS l] K:=by
 refine EU.cl2 ?_
 unfold EU.txt
 simp only [AI,AO,AM,AS,AH,AE,AG,AK,AN,AP,AR,AT,AQ,AL,BD,BJ,BL,BK,BM,BN,BG,A4,AZ,A6,A8,A5,A7]
 refine DC (TS l) (by omega) ?_
 rw [List.nil_append];exact h
theorem pX {l:List AU} {P:AU→Prop} (h: ∀o∈l,P o) {i:Nat} (hi:i<l.length):P (ob l i):=by rw [←DH hi];exact h _ (List.getElem_mem hi)
theorem kR (l:List Nd) (x:Nd):tR tN l++[T.c (.bool x.live), .c (I x.gen), .c (I x.site), .c (I x.holds), .c (I x.roots), .l 1 (tI x.field)]=tR tN (l++[x]):=WH l x
theorem vZ {a:List AU} {i:Nat} (hi:i<a.length):tR tN ((a.take i).map HE)++[T.c (.bool (ob a i).live), .c (I (ob a i).gen), .c (I (ob a i).site), .c (I (ob a i).holds), .c (I (ob a i).roots), .l 1 (tI (ob a i).field)]=tR tN ((a.take (i+1)).map HE):=by
 rw [List.take_succ_eq_append_getElem hi,List.map_append,DH hi]
 exact kR _ (HE (ob a i))
theorem XK {h:Hp} {K:J2} (hf:Fits h) (hk:K [] (tD (vU h))):cl2 ⟨Try.prog,w0⟩ 71 GS.sg [] (trees h) K:=by
 obtain ⟨a,b,c,d⟩:=h
 have g1:=hf.ol;have g2:=hf.wl;have g3:=hf.sl
 simp only at g1 g2 g3
 refine GS.cl2 ?_
 unfold GS.txt
 simp only [AI,AO,AM,AS,AH,AE,AG,AK,AN,AP,AR,AT,AQ,AL,BD,BJ,BL,BK,BM,BN,BG,A4,AZ,A6,A8,A5,A7]
 refine DC (UQ _) (by simp only [cnt,List.length_nil];omega) (DC (TS _) (by omega) ?_)
 refine BH (fun i=>[iv i]) (fun i=>[tR tN ((a.take i).map HE),tR tW b,tS d]) a.length (fun _=>True) rfl rfl trivial (fun R i hi hP hR=> ?_)
 simp only [AI,AO,AM,AS,AH,AE,AG,AK,AN,AP,AR,AT,AQ,AL,BD,BJ,BL,BK,BM,BN,BG,A4,AZ,A6,A8,A5,A7]
 refine AY (AW (fun hlt=> ?_) fun hge=> ?_)
 ·have hlt:i<a.length:=by omega
  have hfo:((ob a i).field.length:Int)≤1048576:=pX (l:=a) hf.of hlt
  have hln:((a.take i).map HE).length=i:=by simp;omega
  replace hR:=hR hlt trivial
  refine AJ hlt (OC hlt ?_)
  rw [HG hlt]
  refine DC (KZ _) (by first | omega | (simp only [AI,AO,AM,AS,AH,AE,AG,AK,AN,AP,AR,AT,AQ,AL,BD,BJ,BL,BK,BM,BN,BG,A4,AZ,A6,A8,A5,A7];omega)) (fO (by rw [hln];omega) (BA (by omega) ?_))
  rw [←vZ hlt] at hR
  exact hR
 ·have:i=a.length:=by omega
  subst this
  simpa [vU,tD] using hk
def yU (g:Gr):Int:=szL jV g.nodes+szL VY g.BW+g.sites.length
structure VM (g:Gr):Prop where
 nl:(g.nodes.length:Int)≤1048576
 nf: ∀o∈g.nodes,(o.field.length:Int)≤1048576
 wl:(g.BW.length:Int)≤1048576
 sl:(g.sites.length:Int)≤1048576
theorem VM.of {h:Hp} (hf:Fits h):VM (vU h):=by
 refine ⟨?_, ?_,hf.wl,hf.sl⟩
 ·simp only [vU,List.length_map];exact hf.ol
 ·intro o ho
  obtain ⟨x,hx,rfl⟩:=List.mem_map.1 ho
  exact hf.of x hx
theorem VM.nodes {g:Gr} (hf:VM g):0≤szL jV g.nodes∧szL jV g.nodes≤2^41:=by
 refine ⟨T7 pC _, ?_⟩
 have h1:=XW (sz:=jV) (b:=1048581) (l:=g.nodes) fun o ho=>by have:=hf.nf o ho;unfold jV;omega
 have h2:=hf.nl
 have h3:(g.nodes.length:Int)*1048581≤1048576*1048581:=Int.mul_le_mul_of_nonneg_right h2 (by omega)
 omega
theorem VM.BW {g:Gr} (hf:VM g):0≤szL VY g.BW∧szL VY g.BW≤2^41:=by
 refine ⟨T7 fR _, ?_⟩
 have h1:=XW (sz:=VY) (b:=2) (l:=g.BW) fun o ho=>by unfold VY;omega
 have h2:=hf.wl
 omega
theorem VM.sz {g:Gr} (hf:VM g):0≤yU g∧yU g≤2^43:=by
 have h1:=hf.nodes;have h2:=hf.BW;have h4:=hf.sl
 unfold yU;omega
end Go.Proofs.Ytklmcfpgdfibnaa.P
namespace Go.Proofs.Ytklmcfpgdfibnaa.P
open Go Go.Proofs.Ytklmcfpgdfibnaa Go.Proofs.Ytklmcfpgdfibnaa.Eng
set_option maxHeartbeats 4000000
set_option linter.unusedVariables false
set_option linter.unusedSimpArgs false
attribute [local irreducible] prP gP gE gF AX ixW ldc ldg ldl stc stg scW mkW apW BE cl2 BS DF CB
variable {w0:World}
def MG (id:Int) (o:AU):Nat:=if o.live=true then o.field.count id else 0
def CJ (l:List AU) (id:Int):Nat:=(l.map (MG id)).sum
def inE (l:List AU) (s:Int):Int:=if (0≤s∧s≤l.length-1)∧(ob l s.toNat).live=true then CJ l (B9 s (ob l s.toNat).gen) else 0
theorem S9 {l:List AU} {i:Nat} {id:Int} (hi:i<l.length):CJ (l.take (i+1)) id=CJ (l.take i) id+MG id (ob l i):=by
 rw [CJ,List.take_succ_eq_append_getElem hi,List.map_append,List.sum_append,DH hi];simp [CJ]
theorem S7 {l:List Int} {j:Nat} {id:Int} (hj:j<l.length):(l.take (j+1)).count id=(l.take j).count id+if gI l j=id then 1 else 0:=by
 rw [List.take_succ_eq_append_getElem hj,List.count_append,DL hj,List.count_singleton]
 simp
theorem wZ (id:Int) (o:AU):MG id o≤o.field.length:=by
 unfold MG;split
 ·exact List.count_le_length
 ·exact Nat.zero_le _
theorem NB {l:List AU} {id:Int} {b:Nat} (h: ∀o∈l,o.field.length≤b):CJ l id≤l.length*b:=by
 induction l with
 | nil=>simp [CJ]
 | cons o l ih=>
   have h1:=ih fun x hx=>h x (by simp [hx])
   have h2:=wZ id o
   have h3:=h o (by simp)
   simp only [CJ,List.map_cons,List.sum_cons,List.length_cons,Nat.add_mul,Nat.one_mul] at h1 ⊢
   omega
theorem dG {l:List AU} (hf: ∀o∈l,(o.field.length:Int)≤1048576) (i:Nat):((ob l i).field.length:Int)≤1048576:=by
 by_cases hi:i<l.length
 ·rw [←DH hi];exact hf _ (List.getElem_mem hi)
 ·unfold ob;rw [List.getD_eq_getElem?_getD,List.getElem?_eq_none (by omega)];simp
theorem QM {a:List AU} {b c d:List T} {s:Int} {K:J2} (hs:F64 s) (hl:(a.length:Int)≤1048576) (hf: ∀o∈a,(o.field.length:Int)≤1048576) (h:K [I (inE a s)] []):cl2 ⟨Try.prog,w0⟩ 100 EZ.sg [I s] [tR tO a,b,c,d] K:=by
 obtain ⟨s1,s2⟩:=hs
 refine EZ.cl2 ?_
 unfold EZ.txt
 simp only [AI,AO,AM,AS,AH,AE,AG,AK,AN,AP,AR,AT,AQ,AL,BD,BJ,BL,BK,BM,BN,BG,A4,AZ,A6,A8,A5,A7]
 repeat' (first | refine HH ?_ | refine MC ?_ | refine BC ?_ | refine J3 (by first | with_reducible assumption | omega) ?_ | refine EC (by first | with_reducible assumption | omega) ?_ | refine C4 (by first | with_reducible assumption | omega) rfl ?_ | refine CZ (by first | with_reducible assumption | omega) rfl ?_ | refine BV ?_ | refine CQ ?_ | refine FJ ⟨by omega,by omega⟩ ?_ | refine Q8 (by omega) (by omega) ?_ | refine H0 (by omega) (by decide) rfl ?_ | refine LU (by omega) rfl ?_ | refine KM (fun _=> ?_) (fun _=> ?_) | refine TD (fun _=> ?_) (fun _=> ?_) | refine B2 ?_ | simp only [AI,AO,AM,AS,AH,AE,AG,AK,AN,AP,AR,AT,AQ,AL,BD,BJ,BL,BK,BM,BN,BG,A4,AZ,A6,A8,A5,A7])
 ·rw [inE,if_neg (by simp_all)] at h;exact h
 ·rename_i hin hlv
  have hin:0≤s∧s≤(a.length:Int)-1:=Decidable.not_not.1 hin
  rw [inE,if_pos ⟨hin,by simpa using hlv⟩] at h
  generalize B9 s (ob a s.toNat).gen=id at h ⊢
  refine BH (fun i=>[I id,I (CJ (a.take i) id),iv a.length,iv i]) (fun _=>[]) a.length (fun _=>True) rfl rfl trivial (fun R i hi _ hR=> ?_)
  have he:=NB (l:=a.take i) (id:=id) (b:=1048576) fun o ho=>by have:=hf o (List.mem_of_mem_take ho);omega
  have hln:(a.take i).length≤a.length:=by simp;omega
  have hmul:(a.take i).length*1048576≤1048576*1048576:=Nat.mul_le_mul_right _ (by omega)
  have hfo:=dG hf i
  simp only [AI,AO,AM,AS,AH,AE,AG,AK,AN,AP,AR,AT,AQ,AL,BD,BJ,BL,BK,BM,BN,BG,A4,AZ,A6,A8,A5,A7]
  refine AY (AW (fun hlt=> ?_) fun hge=> ?_)
  ·have hlt:i<a.length:=by omega
   replace hR:=hR hlt trivial
   rw [S9 hlt,MG] at hR
   refine AJ hlt (OC hlt ?_)
   rw [HG hlt,AE]
   refine BH (fun j=>[I id,I ((CJ (a.take i) id+(if (ob a i).live=true then ((ob a i).field.take j).count id else 0):Nat):Int),iv a.length,iv i,iv (AA (iv i)*8+6),iv (ob a i).field.length,iv j, .bool (ob a i).live,I (ob a i).gen,I (ob a i).site,I (ob a i).holds,I (ob a i).roots,I (ob a i).count,iv (AA (iv i)*8+6), .bool (ob a i).purple]) (fun _=>[]) (ob a i).field.length (fun _=>True) (by simp only [List.take_zero,List.count_nil,ite_self,Nat.add_zero];rfl) rfl trivial (fun R2 j hj _ hR2=> ?_)
   have hc:((ob a i).field.take j).count id≤j:=Nat.le_trans List.count_le_length (by simp;omega)
   simp only [AI,AO,AM,AS,AH,AE,AG,AK,AN,AP,AR,AT,AQ,AL,BD,BJ,BL,BK,BM,BN,BG,A4,AZ,A6,A8,A5,A7]
   refine AY (AW (fun hlt2=> ?_) fun hge2=> ?_)
   ·have hlt2:j<(ob a i).field.length:=by omega
    replace hR2:=hR2 hlt2 trivial
    rw [S7 hlt2] at hR2
    rw [A9 (AA (iv i)*8+6),HG hlt,AE]
    refine BP (AJ hlt2 (NG hlt hlt2 (BC (BC ?_))))
    by_cases hv:(ob a i).live=true
    ·simp only [if_pos hv] at hR2 ⊢
     refine QL hv (BF (oF hv rfl (AW (fun he=> ?_) fun he=> ?_)))
     ·rw [if_pos he] at hR2
      exact DN ⟨by omega,by omega⟩ (BA (by omega) hR2)
     ·rw [if_neg he] at hR2
      exact BA (by omega) hR2
    ·have hv:(ob a i).live=false:=by simpa using hv
     simp only [hv,Bool.false_eq_true,if_false] at hR2 ⊢
     exact HC (P5 rfl (BU (BA (by omega) hR2)))
   ·have:j=(ob a i).field.length:=by omega
    subst this
    rw [List.take_length] at hc ⊢
    exact BA (by omega) hR
  ·have:i=a.length:=by omega
   subst this
   rw [List.take_length];exact h
 ·rw [inE,if_neg (by rintro ⟨h1,h2⟩;simp_all)] at h;exact h
theorem Q1 {a:List AU} {b c d:List T} {s:Int} {K:J2} (hs:F64 s) (hl:(a.length:Int)≤1048576) (hf: ∀o∈a,(o.field.length:Int)≤1048576) (h:K [I (inE a s)] []):cl2 ⟨Try.prog,w0⟩ 88 ER.sg [I s] [tR tO a,b,c,d] K:=by
 obtain ⟨s1,s2⟩:=hs
 refine ER.cl2 ?_
 unfold ER.txt
 simp only [AI,AO,AM,AS,AH,AE,AG,AK,AN,AP,AR,AT,AQ,AL,BD,BJ,BL,BK,BM,BN,BG,A4,AZ,A6,A8,A5,A7]
 repeat' (first | refine CN ?_ | refine FD ?_ | refine BC ?_ | refine J3 (by first | with_reducible assumption | omega) ?_ | refine EC (by first | with_reducible assumption | omega) ?_ | refine C4 (by first | with_reducible assumption | omega) rfl ?_ | refine CZ (by first | with_reducible assumption | omega) rfl ?_ | refine BV ?_ | refine CQ ?_ | refine FJ ⟨by omega,by omega⟩ ?_ | refine Q8 (by omega) (by omega) ?_ | refine H0 (by omega) (by decide) rfl ?_ | refine LU (by omega) rfl ?_ | refine KM (fun _=> ?_) (fun _=> ?_) | refine TD (fun _=> ?_) (fun _=> ?_) | refine B2 ?_ | simp only [AI,AO,AM,AS,AH,AE,AG,AK,AN,AP,AR,AT,AQ,AL,BD,BJ,BL,BK,BM,BN,BG,A4,AZ,A6,A8,A5,A7])
 ·rw [inE,if_neg (by simp_all)] at h;exact h
 ·rename_i hin hlv
  have hin:0≤s∧s≤(a.length:Int)-1:=Decidable.not_not.1 hin
  rw [inE,if_pos ⟨hin,by simpa using hlv⟩] at h
  generalize B9 s (ob a s.toNat).gen=id at h ⊢
  refine BH (fun i=>[I (CJ (a.take i) id),I id,iv i]) (fun _=>[]) a.length (fun _=>True) rfl rfl trivial (fun R i hi _ hR=> ?_)
  have he:=NB (l:=a.take i) (id:=id) (b:=1048576) fun o ho=>by have:=hf o (List.mem_of_mem_take ho);omega
  have hln:(a.take i).length≤a.length:=by simp;omega
  have hmul:(a.take i).length*1048576≤1048576*1048576:=Nat.mul_le_mul_right _ (by omega)
  have hfo:=dG hf i
  simp only [AI,AO,AM,AS,AH,AE,AG,AK,AN,AP,AR,AT,AQ,AL,BD,BJ,BL,BK,BM,BN,BG,A4,AZ,A6,A8,A5,A7]
  refine AY (AW (fun hlt=> ?_) fun hge=> ?_)
  ·have hlt:i<a.length:=by omega
   replace hR:=hR hlt trivial
   rw [S9 hlt,MG] at hR
   refine BH (fun j=>[I ((CJ (a.take i) id+(if (ob a i).live=true then ((ob a i).field.take j).count id else 0):Nat):Int),I id,iv i,iv j]) (fun _=>[]) (ob a i).field.length (fun _=>True) (by simp only [List.take_zero,List.count_nil,ite_self,Nat.add_zero];rfl) rfl trivial (fun R2 j hj _ hR2=> ?_)
   have hc:((ob a i).field.take j).count id≤j:=Nat.le_trans List.count_le_length (by simp;omega)
   refine AJ hlt (XO hlt ?_)
   rw [HG hlt,AE]
   by_cases hv:(ob a i).live=true
   ·simp only [if_pos hv] at hR hR2 ⊢
    refine AY (BC (BC (BC (J1 (fun hlt2=> ?_) fun hge2=> ?_))))
    ·have hlt2':j<(ob a i).field.length:=by
      have:(j:Int)<((ob a i).field.length:Int):=hlt2
      omega
     replace hR2:=hR2 hlt2' trivial
     rw [S7 hlt2'] at hR2
     refine AJ hlt (BC (FF hlt2 (LU hlt rfl (C4 hlt2 rfl (lV hv (BP (AJ hlt (XO hlt ?_))))))))
     rw [HG hlt,AE]
     refine AJ hlt2' (NG hlt hlt2' (BF (AW (fun he=> ?_) fun he=> ?_)))
     ·rw [if_pos he] at hR2
      exact DN ⟨by omega,by omega⟩ (BA (by omega) hR2)
     ·rw [if_neg he] at hR2
      exact BA (by omega) hR2
    ·have:j=(ob a i).field.length:=by
      have: ¬(j:Int)<((ob a i).field.length:Int):=hge2
      omega
     subst this
     rw [List.take_length] at hc ⊢
     exact BC (IB hge2 (CZ hge2 rfl (BU (BA (by omega) hR))))
   ·have hv:(ob a i).live=false:=by simpa using hv
    simp only [hv,Bool.false_eq_true,if_false] at hR hR2 ⊢
    refine AY (BC (BC (BC (J1 (fun hlt2=> ?_) fun hge2=> ?_))))
    ·exact AJ hlt (BC (FF hlt2 (LU hlt (v:= .bool false) (by rw [←hv];rfl) (C4 hlt2 rfl (BU (BA (by omega) hR))))))
    ·exact BC (IB hge2 (CZ hge2 rfl (BU (BA (by omega) hR))))
  ·have:i=a.length:=by omega
   subst this
   rw [List.take_length];exact h
 ·rw [inE,if_neg (by rintro ⟨h1,h2⟩;simp_all)] at h;exact h
theorem aT {l:List Int} {i:Nat} {x:Int} (hi:i<l.length) (h:x∉l.take i) (hn:gI l i≠x):x∉l.take (i+1):=by
 rw [List.take_succ_eq_append_getElem hi,DL hi]
 simp only [List.mem_append,List.mem_singleton,not_or]
 exact ⟨h,fun he=>hn he.symm⟩
theorem DS {l:List Int} {i:Nat} (h:i<l.length):gI l i∈l:=by rw [←DL h];exact List.getElem_mem h
theorem SW {l:List Int} {x:Int} {K:J2} (hl:(l.length:Int)<2^62) (h:K [.bool (decide (x∈l))] []):cl2 ⟨Try.prog,w0⟩ 91 GD.sg [I x] [tI l] K:=by
 refine GD.cl2 ?_
 unfold GD.txt
 simp only [AI,AO,AM,AS,AH,AE,AG,AK,AN,AP,AR,AT,AQ,AL,BD,BJ,BL,BK,BM,BN,BG,A4,AZ,A6,A8,A5,A7]
 refine BH (fun i=>[I x,iv l.length,iv i]) (fun _=>[]) l.length (fun i=>x∉l.take i) rfl rfl (by simp) (fun R i hi hP hR=> ?_)
 refine AY (AW (fun hlt=> ?_) fun hge=> ?_)
 ·have hlt:i<l.length:=by omega
  refine AJ hlt (ldI hlt (BF (AW (fun he=> ?_) fun he=> ?_)))
  ·rw [decide_eq_true (he ▸ DS hlt)] at h;exact h
  ·exact BA (by omega) (hR hlt (aT hlt hP he))
 ·have:i=l.length:=by omega
  subst this
  rw [List.take_length] at hP
  rw [decide_eq_false hP] at h;exact h
theorem MS {l:List Int} {x:Int} {K:J2} (hl:(l.length:Int)<2^62) (h:K [.bool (decide (x∈l))] []):cl2 ⟨Try.prog,w0⟩ 89 EP.sg [I x] [tI l] K:=by
 refine EP.cl2 ?_
 unfold EP.txt
 simp only [AI,AO,AM,AS,AH,AE,AG,AK,AN,AP,AR,AT,AQ,AL,BD,BJ,BL,BK,BM,BN,BG,A4,AZ,A6,A8,A5,A7]
 refine BH (fun i=>[I x,iv i]) (fun _=>[]) l.length (fun i=>x∉l.take i) rfl rfl (by simp) (fun R i hi hP hR=> ?_)
 refine AY (AW (fun hlt=> ?_) fun hge=> ?_)
 ·have hlt:i<l.length:=by omega
  refine AJ hlt (ldI hlt (BF (AW (fun he=> ?_) fun he=> ?_)))
  ·rw [decide_eq_true (he ▸ DS hlt)] at h;exact h
  ·exact BA (by omega) (hR hlt (aT hlt hP he))
 ·have:i=l.length:=by omega
  subst this
  rw [List.take_length] at hP
  rw [decide_eq_false hP] at h;exact h
attribute [irreducible] inE CJ
end Go.Proofs.Ytklmcfpgdfibnaa.P
namespace Go.Proofs.Ytklmcfpgdfibnaa.P
open Go Go.Proofs.Ytklmcfpgdfibnaa Go.Proofs.Ytklmcfpgdfibnaa.Eng
set_option linter.unusedVariables false
def inB (n lo hi:Int):Bool:=decide (n≥lo)&&decide (n≤hi)
def P6 (n:Int):Bool:=inB n (-1000000000) 1000000000
def zT (a b c d:Int) (s:ByteArray):Bool:=(((P6 a&&P6 b)&&P6 c)&&P6 d)&&decide ((s.size:Int)≤8)
def Ac (c v:Int) (l:List Int):Bool:=(inB c 0 6&&P6 v&&decide (l.length≤8))&&l.all P6
end Go.Proofs.Ytklmcfpgdfibnaa.P
namespace Go.Proofs.Ytklmcfpgdfibnaa.P
open Go Go.Proofs.Ytklmcfpgdfibnaa Go.Proofs.Ytklmcfpgdfibnaa.Eng
set_option linter.unusedVariables false
def OD (l:List Nat):ByteArray:=l.foldl (fun b n=>b.push (UInt8.ofNat n)) ByteArray.empty
theorem fV (l:List Nat):(OD l).size=l.length:=by
 have: ∀(l:List Nat) (b:ByteArray),(l.foldl (fun b n=>b.push (UInt8.ofNat n)) b).size=b.size+l.length:=by
  intro l
  induction l with
  | nil=>intro b;rfl
  | cons a l ih=>intro b;rw [List.foldl_cons,ih,ByteArray.size_push,List.length_cons];omega
 rw [OD,this];simp
def vd:Nat→Nat→List Nat
 | 0,n=>[n]
 | k+1,n=>if n≥128 then (128+n % 128)::vd k (n/128) else [n]
theorem rS: ∀k n,(vd k n).length≤k+1
 | 0,n=>by simp [vd]
 | k+1,n=>by
   unfold vd;split
   ·have:=rS k (n/128);simp only [List.length_cons];omega
   ·simp
def V (n:Int):ByteArray:=if inB n 0 562949953421311 then OD (vd 6 n.toNat) else ⟨#[]⟩
theorem TB (n:Int):(V n).size≤7:=by
 unfold V;split
 ·rw [fV];exact rS 6 _
 ·exact Nat.zero_le _
attribute [irreducible] V
end Go.Proofs.Ytklmcfpgdfibnaa.P
namespace Go.Proofs.Ytklmcfpgdfibnaa.P
open Go Go.Proofs.Ytklmcfpgdfibnaa Go.Proofs.Ytklmcfpgdfibnaa.Eng
set_option linter.unusedVariables false
def zg (n:Int):Int:=if inB n (-100000000000000) 100000000000000 then (if n<0 then -2*n-1 else 2*n) else -1
theorem kG {n lo hi:Int}:inB n lo hi=true↔lo≤n∧n≤hi:=by simp [inB]
def SI (n:Int):ByteArray:=V (zg n)
def ST (s:ByteArray):ByteArray:=if (s.size:Int)>8 then ⟨#[]⟩ else V s.size++s
theorem wE (s:ByteArray):(ST s).size≤15:=by
 unfold ST;split
 ·exact Nat.zero_le _
 ·have:=TB s.size
  rw [ByteArray.size_append];omega
theorem rJ {a b:ByteArray} {p q:Prop} (h1:a=b→p) (h2:a≠b→q):AX (.bool (a.toList==b.toList)) p q:=
 TD (fun h=>h1 (iV (by simpa using h))) (fun h=>h2 (by rintro rfl;simp at h))
instance :LawfulBEq ByteArray where
 eq_of_beq {a b} h:=by
  cases a;cases b
  have h:_==_:=h
  first | exact congrArg _ (eq_of_beq h) | (simp [BEq.beq,instBEqByteArray.beq] at h;simpa using h) | (simp_all)
 rfl {a}:=by
  cases a
  first | exact beq_self_eq_true (α:=Array UInt8) _ | (show ByteArray.beq _ _=true;unfold ByteArray.beq;simp) | (simp [BEq.beq,ByteArray.beq])
def at_ (l:List ByteArray) (s:ByteArray):Int:=if s∈l then (l.idxOf s:Int) else -1
theorem XE {l:List ByteArray} {s:ByteArray} {i:Nat} (hi:i<l.length) (h1:s∉l.take i) (h2:l[i]≠s):s∉l.take (i+1):=by
 rw [List.take_succ_eq_append_getElem hi]
 simp only [List.mem_append,List.mem_singleton,not_or]
 exact ⟨h1,fun h=>h2 h.symm⟩
theorem wM {l:List ByteArray} {s:ByteArray} {i:Nat} (hi:i<l.length) (h1:s∉l.take i) (h2:l[i]=s):at_ l s=i:=by
 have hm:s∈l:=h2 ▸ List.getElem_mem hi
 rw [at_,if_pos hm]
 have e:l=l.take i++l[i]::l.drop (i+1):=by rw [←List.drop_eq_getElem_cons hi,List.take_append_drop]
 have hx:l.idxOf s=i:=by
  rw [e,List.idxOf_append,if_neg h1,h2,List.idxOf_cons_self]
  simp;omega
 rw [hx]
theorem SX {w0:World} {s:ByteArray} {l:List ByteArray} {K:J2} (hl:(l.length:Int)<2^62) (h:K [I (at_ l s)] []):cl2 ⟨Try.prog,w0⟩ 162 F8.sg [.string s] [tS l] K:=by
 refine F8.cl2 ?_
 unfold F8.txt
 simp only [AG]
 refine BH (fun i=>[.string s,iv l.length,iv i]) (fun _=>[]) l.length (fun i=>s∉l.take i) rfl rfl (by simp) (fun R i hi hP hR=> ?_)
 refine vY (AW (fun hlt=> ?_) fun hge=> ?_)
 ·refine AJ hlt (s6 hlt (dT (rJ (fun he=> ?_) fun hne=> ?_)))
  ·rw [wM hlt hP he] at h;exact h
  ·exact BA (by omega) (hR hlt (XE hlt hP hne))
 ·have:i=l.length:=by omega
  subst this
  rw [List.take_length] at hP
  rw [at_,if_neg hP] at h;exact h
theorem XF {w0:World} {s:ByteArray} {l:List ByteArray} {K:J2} (hl:(l.length:Int)<2^62) (h:K [.bool (decide (s∈l))] []):cl2 ⟨Try.prog,w0⟩ 159 HL.sg [.string s] [tS l] K:=by
 refine HL.cl2 (SX hl (JW ?_))
 have:decide (at_ l s≥0)=decide (s∈l):=by
  by_cases hm:s∈l <;> simp [at_,hm]
 rw [this];exact h
end Go.Proofs.Ytklmcfpgdfibnaa.P
namespace Go.Proofs.Ytklmcfpgdfibnaa.P
open Go Go.Proofs.Ytklmcfpgdfibnaa Go.Proofs.Ytklmcfpgdfibnaa.Eng
set_option linter.unusedVariables false
def szB (s:ByteArray):Bool:=decide ((s.size:Int)≤8)
def Au (l:List ByteArray):Bool:=l.all szB&&decide l.Nodup
def Bn (n:Int) (l:List ByteArray):Bool:=(P6 n&&decide (l.length≤400))&&Au l
theorem cT {n i:Nat} (hi:i≤n) {K:Value→Value→Prop} (h:K (iv 0) (iv i)):scW n none (some (iv i)) K:=
 ⟨0,i,rfl,by simp [bnd,iv],Nat.zero_le _,hi,h⟩
def rN (l:List ByteArray) (s:ByteArray):ByteArray:=if s∈l then V (at_ l s+1) else V 0++ST s
def Ca (l:List ByteArray) (s:ByteArray):List ByteArray:=if s∈l then l else l++[s]
end Go.Proofs.Ytklmcfpgdfibnaa.P
namespace Go.Proofs.Ytklmcfpgdfibnaa.P
open Go Go.Proofs.Ytklmcfpgdfibnaa Go.Proofs.Ytklmcfpgdfibnaa.Eng
set_option maxHeartbeats 4000000
set_option linter.unusedVariables false
set_option linter.unusedSimpArgs false
attribute [local irreducible] prP gP gE gF AX ixW ldc ldg ldl stc stg scW mkW apW BE cl2 BS DF CB
variable {w0:World}
theorem lD {a:List AU} {i:Nat} (hi:i<a.length):tR tO (a.take i)++[T.c (.bool (ob a i).live), .c (I (ob a i).gen), .c (I (ob a i).site), .c (I (ob a i).holds), .c (I (ob a i).roots), .c (I (ob a i).count), .l 1 (tI (ob a i).field), .c (.bool (ob a i).purple)]=tR tO (a.take (i+1)):=by
 rw [List.take_succ_eq_append_getElem hi,DH hi]
 exact wS _ (ob a i)
theorem PZ {h:Hp} {K:J2} (hf:Fits h) (hk:K [] (trees h)):cl2 ⟨Try.prog,w0⟩ 97 D6.sg [] (trees h) K:=by
 obtain ⟨a,b,c,d⟩:=h
 have g1:=hf.ol;have g2:=hf.wl;have g3:=hf.sl;have g4:=hf.bl
 simp only at g1 g2 g3 g4
 refine D6.cl2 ?_
 unfold D6.txt
 simp only [AI,AO,AM,AS,AH,AE,AG,AK,AN,AP,AR,AT,AQ,AL,BD,BJ,BL,BK,BM,BN,BG,A4,AZ,A6,A8,A5,A7]
 refine DC (UQ _) (by omega) (IY (by omega) (U9 (by omega) ?_))
 refine BH (fun i=>[iv a.length,iv i]) (fun i=>[tR tO (a.take i),tR tW b,tI c,tS d]) a.length (fun _=>True) rfl rfl trivial (fun R i hi hP hR=> ?_)
 simp only [AI,AO,AM,AS,AH,AE,AG,AK,AN,AP,AR,AT,AQ,AL,BD,BJ,BL,BK,BM,BN,BG,A4,AZ,A6,A8,A5,A7]
 refine AY (AW (fun hlt=> ?_) fun hge=> ?_)
 ·have hlt:i<a.length:=by omega
  have hfo:((ob a i).field.length:Int)≤1048576:=pX (l:=a) hf.of hlt
  have hln:(a.take i).length=i:=by simp;omega
  replace hR:=hR hlt trivial
  refine AJ hlt (OC hlt ?_)
  rw [HG hlt]
  refine IY (by omega) (fO (by rw [hln];omega) (BA (by omega) ?_))
  rw [←lD hlt] at hR
  exact hR
 ·have:i=a.length:=by omega
  subst this
  rw [List.take_length];exact hk
theorem LQ {h:Hp} {K:J2} (hf:Fits h) (hk:K [] (trees h)):cl2 ⟨Try.prog,w0⟩ 122 DV.sg [] (trees h) K:=by
 obtain ⟨a,b,c,d⟩:=h
 have g1:=hf.ol;have g2:=hf.wl;have g3:=hf.sl;have g4:=hf.bl
 simp only at g1 g2 g3 g4
 refine DV.cl2 ?_
 unfold DV.txt
 simp only [AI,AO,AM,AS,AH,AE,AG,AK,AN,AP,AR,AT,AQ,AL,BD,BJ,BL,BK,BM,BN,BG,A4,AZ,A6,A8,A5,A7]
 refine DC (UQ _) (by simp only [cnt,List.length_nil];omega) (DC (KZ _) (by omega) (DC (TS _) (by omega) ?_))
 refine BH (fun i=>[iv i]) (fun i=>[tR tO (a.take i),tR tW b,tI c,tS d]) a.length (fun _=>True) rfl rfl trivial (fun R i hi hP hR=> ?_)
 simp only [AI,AO,AM,AS,AH,AE,AG,AK,AN,AP,AR,AT,AQ,AL,BD,BJ,BL,BK,BM,BN,BG,A4,AZ,A6,A8,A5,A7]
 refine AY (AW (fun hlt=> ?_) fun hge=> ?_)
 ·have hlt:i<a.length:=by omega
  have hfo:((ob a i).field.length:Int)≤1048576:=pX (l:=a) hf.of hlt
  have hln:(a.take i).length=i:=by simp;omega
  replace hR:=hR hlt trivial
  refine AJ hlt (OC hlt ?_)
  rw [HG hlt]
  refine DC (KZ _) (by first | omega | (simp only [AI,AO,AM,AS,AH,AE,AG,AK,AN,AP,AR,AT,AQ,AL,BD,BJ,BL,BK,BM,BN,BG,A4,AZ,A6,A8,A5,A7];omega)) (fO (by rw [hln];omega) (BA (by omega) ?_))
  rw [←lD hlt] at hR
  exact hR
 ·have:i=a.length:=by omega
  subst this
  rw [List.take_length];exact hk
structure LZ (l:List ByteArray):Prop where
 len:l.length≤6
 sz: ∀i,i<l.length→1≤((gS l i).size:Int)∧((gS l i).size:Int)≤8
 one: ∀i,i<l.length→gS l i∉l.take i
theorem iN {l:List ByteArray} {i:Nat} {x:ByteArray} (hi:i<l.length) (h:x∉l.take i) (hn:gS l i≠x):x∉l.take (i+1):=by
 rw [List.take_succ_eq_append_getElem hi,QK hi]
 simp only [List.mem_append,List.mem_singleton,not_or]
 exact ⟨h,fun he=>hn he.symm⟩
theorem ZB {l:List ByteArray} {K:J2} (hl:(l.length:Int)<2^62) (h1:LZ l→K [.bool true] []) (h2: ¬LZ l→K [.bool false] []):cl2 ⟨Try.prog,w0⟩ 129 GR.sg [] [tS l] K:=by
 refine GR.cl2 ?_
 unfold GR.txt
 simp only [AI,AO,AM,AS,AH,AE,AG,AK,AN,AP,AR,AT,AQ,AL,BD,BJ,BL,BK,BM,BN,BG,A4,AZ,A6,A8,A5,A7]
 refine BH (fun i=>[iv l.length,iv i]) (fun _=>[]) l.length (fun i=> ∀k,k<i→(1≤((gS l k).size:Int)∧((gS l k).size:Int)≤8)∧gS l k∉l.take k) rfl rfl (fun k hk=>by omega) (fun R i hi hP hR=> ?_)
 simp only [AI,AO,AM,AS,AH,AE,AG,AK,AN,AP,AR,AT,AQ,AL,BD,BJ,BL,BK,BM,BN,BG,A4,AZ,A6,A8,A5,A7]
 refine AY (AW (fun hlt=> ?_) fun hge=> ?_)
 ·have hlt:i<l.length:=by omega
  refine AJ hlt (ldS hlt (T2 (HH (CQ (BC (BC (KM (fun hb=> ?_) fun hb=> ?_)))))))
  ·refine cT (by omega) (BC (EC hb ?_))
   have e:G4 (tS l) [] (AA (YJ (two (iv 0) (iv i)))*1) (AA (XH (two (iv 0) (iv i)))*1)=tS (l.take i):=by
    have h1:AA (YJ (two (iv 0) (iv i)))=0:=rfl
    have h2:AA (XH (two (iv 0) (iv i)))=i:=A9 i
    rw [h1,h2];simp [G4,node,tS,List.map_take]
   rw [e]
   refine XF (by simp;omega) (CZ hb rfl (AW (fun hm=>h2 fun hk=>hk.one i hlt hm) fun hm=> ?_))
   refine BA (by omega) (hR hlt fun k hk=> ?_)
   rcases Nat.lt_succ_iff_lt_or_eq.1 hk with h3 | rfl
   ·exact hP k h3
   ·exact ⟨Decidable.not_not.1 hb,hm⟩
  ·exact BC (J3 hb (C4 hb rfl (BV (h2 fun hk=>hb (hk.sz i hlt)))))
 ·have:i=l.length:=by omega
  subst this
  refine HR ?_
  by_cases h6:(l.length:Int)≤6
  ·rw [decide_eq_true h6]
   exact h1 ⟨by omega,fun i hi=>(hP i hi).1,fun i hi=>(hP i hi).2⟩
  ·rw [decide_eq_false h6]
   exact h2 fun hk=>by have:=hk.len;omega
structure OJ (h:Hp) (i:Nat):Prop where
 gen:0≤(ob h.AD i).gen∧(ob h.AD i).gen≤999
 len:(ob h.AD i).field.length=3
 lead: ∀j,j<3→gI (ob h.AD i).field j≠ -1→(ob h.AD i).live=true∧0≤AB h.AD (gI (ob h.AD i).field j)
 dead:(ob h.AD i).live=false→(ob h.AD i).site=0∧(ob h.AD i).holds=0∧(ob h.AD i).roots=0∧(ob h.AD i).count=0∧(ob h.AD i).purple=false
 lv:(ob h.AD i).live=true→1≤(ob h.AD i).gen∧(0≤(ob h.AD i).site∧(ob h.AD i).site≤(h.sites.length:Int)-1)∧(0≤(ob h.AD i).holds∧(ob h.AD i).holds≤20)∧(0≤(ob h.AD i).roots∧(ob h.AD i).roots≤20)∧
  (ob h.AD i).count=(ob h.AD i).holds+(ob h.AD i).roots+inE h.AD i∧1≤(ob h.AD i).count∧(ob h.AD i).purple=decide (B9 i (ob h.AD i).gen∈h.buffer)
structure B1 (h:Hp):Prop where
 ol:h.AD.length=8
 wl:h.BW.length=8
 sites:LZ h.sites
 obj: ∀i,i<8→OJ h i
 weak: ∀i,i<8→((wk h.BW i).used=false→(wk h.BW i).target=0)∧((wk h.BW i).used=true→8≤(wk h.BW i).target∧(wk h.BW i).target≤7999)
 buf: ∀i,i<h.buffer.length→0≤AB h.AD (gI h.buffer i)∧gI h.buffer i∉h.buffer.take i
theorem xJ {l:List Int} {P:Int→Prop} (h0:P 0) (h: ∀x∈l,P x) (i:Nat):P (gI l i):=by
 by_cases hi:i<l.length
 ·rw [←DL hi];exact h _ (List.getElem_mem hi)
 ·unfold gI;rw [List.getD_eq_getElem?_getD,List.getElem?_eq_none (by omega)];exact h0
theorem WX:F64 0:=⟨by omega,by omega⟩
theorem RY.ob {h:Hp} (hn:RY h) (i:Nat):F64 (ob h.AD i).gen∧F64 (ob h.AD i).site∧F64 (ob h.AD i).holds∧F64 (ob h.AD i).roots∧F64 (ob h.AD i).count∧ ∀f∈(ob h.AD i).field,F64 f:=by
 by_cases hi:i<h.AD.length
 ·rw [←DH hi];exact hn.obj _ (List.getElem_mem hi)
 ·unfold Eng.ob;rw [List.getD_eq_getElem?_getD,List.getElem?_eq_none (by omega)]
  exact ⟨WX,WX,WX,WX,WX,fun f hf=>by simp at hf⟩
theorem RY.fld {h:Hp} (hn:RY h) (i j:Nat):F64 (gI (Eng.ob h.AD i).field j):=xJ WX (hn.ob i).2.2.2.2.2 j
theorem RY.bf {h:Hp} (hn:RY h) (i:Nat):F64 (gI h.buffer i):=xJ WX hn.buf i
theorem tE {l:List AU} (hl:(l.length:Int)≤1048576) (hf: ∀o∈l,(o.field.length:Int)≤1048576) (s:Int):0≤inE l s∧inE l s≤2^40:=by
 rw [inE];split
 ·have he:=NB (l:=l) (id:=B9 s (ob l s.toNat).gen) (b:=1048576) fun o ho=>by have:=hf o ho;omega
  have hmul:l.length*1048576≤1048576*1048576:=Nat.mul_le_mul_right _ (by omega)
  omega
 ·omega
theorem bO {h:Hp} {i:Nat} {K:J2} (hf:Fits h) (hn:RY h) (hi:i<h.AD.length) (h1:OJ h i→K [.bool true] []) (h2: ¬OJ h i→K [.bool false] []):cl2 ⟨Try.prog,w0⟩ 130 IJ.sg [I i] (trees h) K:=by
 have g1:=hf.ol;have g3:=hf.sl;have g4:=hf.bl
 refine IJ.cl2 ?_
 unfold IJ.txt
 simp only [AI,AO,AM,AS,AH,AE,AG,AK,AN,AP,AR,AT,AQ,AL,BD,BJ,BL,BK,BM,BN,BG,A4,AZ,A6,A8,A5,A7]
 refine AJ hi (OC hi ?_)
 rw [HG hi,AE]
 have hfo:=dG hf.of i
 have hnum:=hn.ob i
 obtain ⟨⟨n1,n2⟩,⟨n3,n4⟩,_,_,⟨n5,n6⟩,_⟩:=hnum
 have hib:=tE hf.ol hf.of i
 refine HH (CQ (BC (BC (BC (KM (fun hg=> ?_) fun hg=> ?_)))))
 rotate_left
 ·exact C4 hg rfl (BV (h2 fun hk=>hg hk.gen))
 refine CM (CZ hg rfl (AW (fun h3=>h2 fun hk=>by have:=hk.len;omega) fun h3=> ?_))
 have hl3:(ob h.AD i).field.length=3:=by omega
 have hg:0≤(ob h.AD i).gen∧(ob h.AD i).gen≤999:=Decidable.not_not.1 hg
 rw [hl3]
 refine BH (fun j=>[iv i,iv (AA (iv i)*8+6),iv 3,iv j, .bool (ob h.AD i).live,I (ob h.AD i).gen,I (ob h.AD i).site,I (ob h.AD i).holds,I (ob h.AD i).roots,I (ob h.AD i).count,iv (AA (iv i)*8+6), .bool (ob h.AD i).purple]) (fun _=>[]) 3 (fun j=> ∀k,k<j→gI (ob h.AD i).field k≠ -1→(ob h.AD i).live=true∧0≤AB h.AD (gI (ob h.AD i).field k)) rfl rfl (fun k hk=>by omega) (fun R j hj hP hR=> ?_)
 simp only [AI,AO,AM,AS,AH,AE,AG,AK,AN,AP,AR,AT,AQ,AL,BD,BJ,BL,BK,BM,BN,BG,A4,AZ,A6,A8,A5,A7]
 rw [A9 (AA (iv i)*8+6),HG hi,AE,hl3]
 refine AY (AW (fun hlt=> ?_) fun hge=> ?_)
 ·have hlt:j<3:=by omega
  refine AJ hlt (NG hi (by omega) ?_)
  repeat' (first | refine C5 (hn.fld i j) (by omega) ?_ | refine BC ?_ | refine PW ?_ | refine lW ?_ | refine Ag (by first | with_reducible assumption | omega) ?_ | refine Be (by first | with_reducible assumption | omega) ?_ | refine FF (by first | with_reducible assumption | omega) ?_ | refine IB (by first | with_reducible assumption | omega) ?_ | refine QL (by with_reducible assumption) ?_ | refine cJ (by with_reducible assumption) ?_ | refine oF (by with_reducible assumption) rfl ?_ | refine sY (by with_reducible assumption) rfl ?_ | refine C4 (by first | with_reducible assumption | omega) rfl ?_ | refine CZ (by first | with_reducible assumption | omega) rfl ?_ | refine BV ?_ | refine BU ?_ | refine AY ?_ | refine CM ?_ | refine BA (by omega) ?_ | refine AW (fun _=> ?_) (fun _=> ?_) | refine J1 (fun _=> ?_) (fun _=> ?_) | refine lG (fun _=> ?_) (fun _=> ?_) | refine B2 ?_)
  all_goals first
   | (refine hR hlt fun k hk hne=> ?_
      rcases Nat.lt_succ_iff_lt_or_eq.1 hk with h4 | rfl
      ·exact hP k h4 hne
      ·first
       | exact absurd hne (by assumption)
       | exact ⟨by simp_all,by omega⟩)
   | (refine h2 fun hk=> ?_
      have h4:=hk.lead j hlt (by assumption)
      first
       | omega
       | simp_all)
 ·have hj3:j=3:=by omega
  subst hj3
  cases hv:(ob h.AD i).live with
  | false=>
    have mk:(ob h.AD i).site=0→(ob h.AD i).holds=0→(ob h.AD i).roots=0→(ob h.AD i).count=0→(ob h.AD i).purple=false→OJ h i:=fun a b c d e=>⟨hg,hl3,hP,fun _=>⟨a,b,c,d,e⟩,fun hh=>by rw [hv] at hh;cases hh⟩
    refine B2 (BV ?_)
    cases hpu:(ob h.AD i).purple
    ·repeat' (first | refine BC ?_ | refine HC ?_ | refine C4 (by first | with_reducible assumption | omega) rfl ?_ | refine CZ (by first | with_reducible assumption | omega) rfl ?_ | refine P5 rfl ?_ | refine BF ?_ | refine J1 (fun _=> ?_) (fun _=> ?_) | refine B2 ?_)
     all_goals first
      | exact h1 (mk (by assumption) (by assumption) (by assumption) (by assumption) hpu)
      | (refine h2 fun hk=> ?_
         have h4:=hk.dead hv
         omega)
    ·repeat' (first | refine BC ?_ | refine HC ?_ | refine C4 (by first | with_reducible assumption | omega) rfl ?_ | refine CZ (by first | with_reducible assumption | omega) rfl ?_ | refine P5 rfl ?_ | refine BF ?_ | refine J1 (fun _=> ?_) (fun _=> ?_) | refine B2 ?_)
     all_goals
      refine h2 fun hk=> ?_
      have h4:=hk.dead hv
      rw [hpu] at h4
      first
       | omega
       | exact absurd h4.2.2.2.2 (by decide)
  | true=>
    refine B2 (BU ?_)
    have fin:1≤(ob h.AD i).gen→(0≤(ob h.AD i).site∧(ob h.AD i).site≤(h.sites.length:Int)-1)→(0≤(ob h.AD i).holds∧(ob h.AD i).holds≤20)→(0≤(ob h.AD i).roots∧(ob h.AD i).roots≤20)→(ob h.AD i).count=(ob h.AD i).holds+(ob h.AD i).roots+inE h.AD i→1≤(ob h.AD i).count→K [.bool (decide ((ob h.AD i).purple=decide (B9 i (ob h.AD i).gen∈h.buffer)))] []:=fun a b c d e f=>by
     by_cases hp:(ob h.AD i).purple=decide (B9 i (ob h.AD i).gen∈h.buffer)
     ·rw [decide_eq_true hp]
      exact h1 ⟨hg,hl3,hP,fun hh=>(by rw [hv] at hh;cases hh),fun _=>⟨a,b,c,d,e,f,hp⟩⟩
     ·rw [decide_eq_false hp]
      exact h2 fun hk=>hp (hk.lv hv).2.2.2.2.2.2
    have no: ∀{P:Prop}, ¬P→(OJ h i→P)→K [.bool false] []:=fun hp hi=>h2 fun hk=>hp (hi hk)
    repeat' (first | refine HH ?_ | refine QM ⟨by omega,by omega⟩ (by omega) hf.of ?_ | refine MC ?_ | refine SW (by omega) ?_ | refine BC ?_ | refine HC ?_ | refine FF (by first | with_reducible assumption | omega) ?_ | refine IB (by first | with_reducible assumption | omega) ?_ | refine C4 (by first | with_reducible assumption | omega) rfl ?_ | refine CZ (by first | with_reducible assumption | omega) rfl ?_ | refine P5 rfl ?_ | refine HR ?_ | refine BF ?_ | refine DN ⟨by omega,by omega⟩ ?_ | refine FJ ⟨by omega,by omega⟩ ?_ | refine uB ?_ | refine J1 (fun _=> ?_) (fun _=> ?_))
    all_goals first
     | exact fin (by assumption) (by assumption) (by assumption) (by assumption) (by assumption) (by assumption)
     | (refine h2 fun hk=> ?_
        have h4:=hk.lv hv
        omega)
end Go.Proofs.Ytklmcfpgdfibnaa.P
