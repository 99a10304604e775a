/- A part of the proof. -/
import Derived.Test.YtklmcfpgdfibnaaRtLawTyNode
import Derived.Test.YtklmcfpgdfibnaaRtRowT
import Derived.Test.YtklmcfpgdfibnaaRtTxtB
namespace Go.Proofs.Ytklmcfpgdfibnaa.P
open Go Go.Proofs.Ytklmcfpgdfibnaa Go.Proofs.Ytklmcfpgdfibnaa.Eng
set_option maxHeartbeats 4000000
set_option linter.unusedVariables false
set_option linter.unusedSimpArgs false
attribute [local irreducible] prP gP gE gF AX ixW ldc ldg ldl stc stg scW mkW apW BN cl2 BV EN CJ
variable {w0:World}
structure Gr where
 nodes:List Nd
 B1:List Wk
 sites:List ByteArray
def wZ (o:AV):Nd:=⟨o.live,o.gen,o.site,o.holds,o.roots,o.field⟩
def uN (h:Hp):Gr:=⟨h.AE.map wZ,h.B1,h.sites⟩
theorem HW {l:List Int} {K:J2} (hl:(l.length:Int)≤2^40) (h:K [] [tI l]):cl2 ⟨Try.prog,w0⟩ 141 CN.sg [] [tI l] K:=by
 refine CN.cl2 ?_
 unfold CN.txt
 simp only [AH,AR,AN,AS,AJ,AD,AG,AP,AO,AK,AM,AL,AI,AQ,BD,BI,BH,BJ,BG,BF,BE,A5,AZ,A4,A6,A7,AY]
 refine EJ (MI l) (by omega) ?_
 rw [List.nil_append];exact h
theorem TI {l:List ByteArray} {K:J2} (hl:(l.length:Int)≤2^40) (h:K [] [tS l]):cl2 ⟨Try.prog,w0⟩ 142 EG.sg [] [tS l] K:=by
 refine EG.cl2 ?_
 unfold EG.txt
 simp only [AH,AR,AN,AS,AJ,AD,AG,AP,AO,AK,AM,AL,AI,AQ,BD,BI,BH,BJ,BG,BF,BE,A5,AZ,A4,A6,A7,AY]
 refine EJ (ZE l) (by omega) ?_
 rw [List.nil_append];exact h
theorem rD {l:List AV} {P:AV→Prop} (h: ∀o∈l,P o) {i:Nat} (hi:i<l.length):P (ob l i):=by rw [←DF hi];exact h _ (List.getElem_mem hi)
def sP (g:Gr):Int:=szL dM g.nodes+szL UE g.B1+g.sites.length
structure UB (g:Gr):Prop where
 nl:(g.nodes.length:Int)≤1048576
 nf: ∀o∈g.nodes,(o.field.length:Int)≤1048576
 wl:(g.B1.length:Int)≤1048576
 sl:(g.sites.length:Int)≤1048576
theorem UB.of {h:Hp} (hf:Fits h):UB (uN h):=by
 refine ⟨?_, ?_,hf.wl,hf.sl⟩
 ·simp only [uN,List.length_map];exact hf.ol
 ·intro o ho
  obtain ⟨x,hx,rfl⟩:=List.mem_map.1 ho
  exact hf.of x hx
theorem UB.nodes {g:Gr} (hf:UB g):0≤szL dM g.nodes∧szL dM g.nodes≤2^41:=by
 refine ⟨RZ mP _, ?_⟩
 have h1:=WI (sz:=dM) (b:=1048581) (l:=g.nodes) fun o ho=>by have:=hf.nf o ho;unfold dM;omega
 have h2:=hf.nl
 have h3:(g.nodes.length:Int)*1048581≤1048576*1048581:=Int.mul_le_mul_of_nonneg_right h2 (by omega)
 omega
theorem UB.B1 {g:Gr} (hf:UB g):0≤szL UE g.B1∧szL UE g.B1≤2^41:=by
 refine ⟨RZ cG _, ?_⟩
 have h1:=WI (sz:=UE) (b:=2) (l:=g.B1) fun o ho=>by unfold UE;omega
 have h2:=hf.wl
 omega
theorem UB.sz {g:Gr} (hf:UB g):0≤sP g∧sP g≤2^43:=by
 have h1:=hf.nodes;have h2:=hf.B1;have h4:=hf.sl
 unfold sP;omega
end Go.Proofs.Ytklmcfpgdfibnaa.P
namespace Go.Proofs.Ytklmcfpgdfibnaa.P
open Go Go.Proofs.Ytklmcfpgdfibnaa Go.Proofs.Ytklmcfpgdfibnaa.Eng
set_option maxHeartbeats 4000000
set_option linter.unusedVariables false
set_option linter.unusedSimpArgs false
attribute [local irreducible] prP gP gE gF AX ixW ldc ldg ldl stc stg scW mkW apW BN cl2 BV EN CJ
variable {w0:World}
def LN (id:Int) (o:AV):Nat:=if o.live=true then o.field.count id else 0
def CI (l:List AV) (id:Int):Nat:=(l.map (LN id)).sum
def inE (l:List AV) (s:Int):Int:=if (0≤s∧s≤l.length-1)∧(ob l s.toNat).live=true then CI l (CE s (ob l s.toNat).gen) else 0
theorem WN {l:List AV} {i:Nat} {id:Int} (hi:i<l.length):CI (l.take (i+1)) id=CI (l.take i) id+LN id (ob l i):=by
 rw [CI,List.take_succ_eq_append_getElem hi,List.map_append,List.sum_append,DF hi];simp [CI]
theorem V0 {l:List Int} {j:Nat} {id:Int} (hj:j<l.length):(l.take (j+1)).count id=(l.take j).count id+if gI l j=id then 1 else 0:=by
 rw [List.take_succ_eq_append_getElem hj,List.count_append,D4 hj,List.count_singleton]
 simp
theorem pZ (id:Int) (o:AV):LN id o≤o.field.length:=by
 unfold LN;split
 ·exact List.count_le_length
 ·exact Nat.zero_le _
theorem NK {l:List AV} {id:Int} {b:Nat} (h: ∀o∈l,o.field.length≤b):CI l id≤l.length*b:=by
 induction l with
 | nil=>simp [CI]
 | cons o l ih=>
   have h1:=ih fun x hx=>h x (by simp [hx])
   have h2:=pZ id o
   have h3:=h o (by simp)
   simp only [CI,List.map_cons,List.sum_cons,List.length_cons,Nat.add_mul,Nat.one_mul] at h1 ⊢
   omega
theorem ZH {l:List AV} (hf: ∀o∈l,(o.field.length:Int)≤1048576) (i:Nat):((ob l i).field.length:Int)≤1048576:=by
 by_cases hi:i<l.length
 ·rw [←DF hi];exact hf _ (List.getElem_mem hi)
 ·unfold ob;rw [List.getD_eq_getElem?_getD,List.getElem?_eq_none (by omega)];simp
theorem MD {a:List AV} {b c d:List T} {s:Int} {K:J2} (hs:F64 s) (hl:(a.length:Int)≤1048576) (hf: ∀o∈a,(o.field.length:Int)≤1048576) (h:K [I (inE a s)] []):cl2 ⟨Try.prog,w0⟩ 100 DJ.sg [I s] [tR tO a,b,c,d] K:=by
 obtain ⟨s1,s2⟩:=hs
 refine DJ.cl2 ?_
 unfold DJ.txt
 simp only [AH,AR,AN,AS,AJ,AD,AG,AP,AO,AK,AM,AL,AI,AQ,BD,BI,BH,BJ,BG,BF,BE,A5,AZ,A4,A6,A7,AY]
 repeat' (first | refine GR ?_ | refine JD ?_ | refine BK ?_ | refine KY (by first | with_reducible assumption | omega) ?_ | refine EY (by first | with_reducible assumption | omega) ?_ | refine C6 (by first | with_reducible assumption | omega) rfl ?_ | refine C2 (by first | with_reducible assumption | omega) rfl ?_ | refine B2 ?_ | refine DK ?_ | refine H6 ⟨by omega,by omega⟩ ?_ | refine O7 (by omega) (by omega) ?_ | refine HA (by omega) (by decide) rfl ?_ | refine KR (by omega) rfl ?_ | refine J3 (fun _=> ?_) (fun _=> ?_) | refine RR (fun _=> ?_) (fun _=> ?_) | refine B4 ?_ | simp only [AH,AR,AN,AS,AJ,AD,AG,AP,AO,AK,AM,AL,AI,AQ,BD,BI,BH,BJ,BG,BF,BE,A5,AZ,A4,A6,A7,AY])
 ·rw [inE,if_neg (by simp_all)] at h;exact h
 ·rename_i hin hlv
  have hin:0≤s∧s≤(a.length:Int)-1:=Decidable.not_not.1 hin
  rw [inE,if_pos ⟨hin,by simpa using hlv⟩] at h
  generalize CE s (ob a s.toNat).gen=id at h ⊢
  refine BC (fun i=>[I id,I (CI (a.take i) id),iv a.length,iv i]) (fun _=>[]) a.length (fun _=>True) rfl rfl trivial (fun R i hi _ hR=> ?_)
  have he:=NK (l:=a.take i) (id:=id) (b:=1048576) fun o ho=>by have:=hf o (List.mem_of_mem_take ho);omega
  have hln:(a.take i).length≤a.length:=by simp;omega
  have hmul:(a.take i).length*1048576≤1048576*1048576:=Nat.mul_le_mul_right _ (by omega)
  have hfo:=ZH hf i
  simp only [AH,AR,AN,AS,AJ,AD,AG,AP,AO,AK,AM,AL,AI,AQ,BD,BI,BH,BJ,BG,BF,BE,A5,AZ,A4,A6,A7,AY]
  refine A8 (AW (fun hlt=> ?_) fun hge=> ?_)
  ·have hlt:i<a.length:=by omega
   replace hR:=hR hlt trivial
   rw [WN hlt,LN] at hR
   refine AT hlt (KN hlt ?_)
   rw [GO hlt,AD]
   refine BC (fun j=>[I id,I ((CI (a.take i) id+(if (ob a i).live=true then ((ob a i).field.take j).count id else 0):Nat):Int),iv a.length,iv i,iv (AA (iv i)*8+6),iv (ob a i).field.length,iv j, .bool (ob a i).live,I (ob a i).gen,I (ob a i).site,I (ob a i).holds,I (ob a i).roots,I (ob a i).count,iv (AA (iv i)*8+6), .bool (ob a i).purple]) (fun _=>[]) (ob a i).field.length (fun _=>True) (by simp only [List.take_zero,List.count_nil,ite_self,Nat.add_zero];rfl) rfl trivial (fun R2 j hj _ hR2=> ?_)
   have hc:((ob a i).field.take j).count id≤j:=Nat.le_trans List.count_le_length (by simp;omega)
   simp only [AH,AR,AN,AS,AJ,AD,AG,AP,AO,AK,AM,AL,AI,AQ,BD,BI,BH,BJ,BG,BF,BE,A5,AZ,A4,A6,A7,AY]
   refine A8 (AW (fun hlt2=> ?_) fun hge2=> ?_)
   ·have hlt2:j<(ob a i).field.length:=by omega
    replace hR2:=hR2 hlt2 trivial
    rw [V0 hlt2] at hR2
    rw [A9 (AA (iv i)*8+6),GO hlt,AD]
    refine BQ (AT hlt2 (MB hlt hlt2 (BK (BK ?_))))
    by_cases hv:(ob a i).live=true
    ·simp only [if_pos hv] at hR2 ⊢
     refine PB hv (BM (kK hv rfl (AW (fun he=> ?_) fun he=> ?_)))
     ·rw [if_pos he] at hR2
      exact DT ⟨by omega,by omega⟩ (BA (by omega) hR2)
     ·rw [if_neg he] at hR2
      exact BA (by omega) hR2
    ·have hv:(ob a i).live=false:=by simpa using hv
     simp only [hv,Bool.false_eq_true,if_false] at hR2 ⊢
     exact JZ (TJ rfl (BU (BA (by omega) hR2)))
   ·have:j=(ob a i).field.length:=by omega
    subst this
    rw [List.take_length] at hc ⊢
    exact BA (by omega) hR
  ·have:i=a.length:=by omega
   subst this
   rw [List.take_length];exact h
 ·rw [inE,if_neg (by rintro ⟨h1,h2⟩;simp_all)] at h;exact h
theorem PG {a:List AV} {b c d:List T} {s:Int} {K:J2} (hs:F64 s) (hl:(a.length:Int)≤1048576) (hf: ∀o∈a,(o.field.length:Int)≤1048576) (h:K [I (inE a s)] []):cl2 ⟨Try.prog,w0⟩ 88 EC.sg [I s] [tR tO a,b,c,d] K:=by
 obtain ⟨s1,s2⟩:=hs
 refine EC.cl2 ?_
 unfold EC.txt
 simp only [AH,AR,AN,AS,AJ,AD,AG,AP,AO,AK,AM,AL,AI,AQ,BD,BI,BH,BJ,BG,BF,BE,A5,AZ,A4,A6,A7,AY]
 repeat' (first | refine D9 ?_ | refine IC ?_ | refine BK ?_ | refine KY (by first | with_reducible assumption | omega) ?_ | refine EY (by first | with_reducible assumption | omega) ?_ | refine C6 (by first | with_reducible assumption | omega) rfl ?_ | refine C2 (by first | with_reducible assumption | omega) rfl ?_ | refine B2 ?_ | refine DK ?_ | refine H6 ⟨by omega,by omega⟩ ?_ | refine O7 (by omega) (by omega) ?_ | refine HA (by omega) (by decide) rfl ?_ | refine KR (by omega) rfl ?_ | refine J3 (fun _=> ?_) (fun _=> ?_) | refine RR (fun _=> ?_) (fun _=> ?_) | refine B4 ?_ | simp only [AH,AR,AN,AS,AJ,AD,AG,AP,AO,AK,AM,AL,AI,AQ,BD,BI,BH,BJ,BG,BF,BE,A5,AZ,A4,A6,A7,AY])
 ·rw [inE,if_neg (by simp_all)] at h;exact h
 ·rename_i hin hlv
  have hin:0≤s∧s≤(a.length:Int)-1:=Decidable.not_not.1 hin
  rw [inE,if_pos ⟨hin,by simpa using hlv⟩] at h
  generalize CE s (ob a s.toNat).gen=id at h ⊢
  refine BC (fun i=>[I (CI (a.take i) id),I id,iv i]) (fun _=>[]) a.length (fun _=>True) rfl rfl trivial (fun R i hi _ hR=> ?_)
  have he:=NK (l:=a.take i) (id:=id) (b:=1048576) fun o ho=>by have:=hf o (List.mem_of_mem_take ho);omega
  have hln:(a.take i).length≤a.length:=by simp;omega
  have hmul:(a.take i).length*1048576≤1048576*1048576:=Nat.mul_le_mul_right _ (by omega)
  have hfo:=ZH hf i
  simp only [AH,AR,AN,AS,AJ,AD,AG,AP,AO,AK,AM,AL,AI,AQ,BD,BI,BH,BJ,BG,BF,BE,A5,AZ,A4,A6,A7,AY]
  refine A8 (AW (fun hlt=> ?_) fun hge=> ?_)
  ·have hlt:i<a.length:=by omega
   replace hR:=hR hlt trivial
   rw [WN hlt,LN] at hR
   refine BC (fun j=>[I ((CI (a.take i) id+(if (ob a i).live=true then ((ob a i).field.take j).count id else 0):Nat):Int),I id,iv i,iv j]) (fun _=>[]) (ob a i).field.length (fun _=>True) (by simp only [List.take_zero,List.count_nil,ite_self,Nat.add_zero];rfl) rfl trivial (fun R2 j hj _ hR2=> ?_)
   have hc:((ob a i).field.take j).count id≤j:=Nat.le_trans List.count_le_length (by simp;omega)
   refine AT hlt (WX hlt ?_)
   rw [GO hlt,AD]
   by_cases hv:(ob a i).live=true
   ·simp only [if_pos hv] at hR hR2 ⊢
    refine A8 (BK (BK (BK (I4 (fun hlt2=> ?_) fun hge2=> ?_))))
    ·have hlt2':j<(ob a i).field.length:=by
      have:(j:Int)<((ob a i).field.length:Int):=hlt2
      omega
     replace hR2:=hR2 hlt2' trivial
     rw [V0 hlt2'] at hR2
     refine AT hlt (BK (H8 hlt2 (KR hlt rfl (C6 hlt2 rfl (iE hv (BQ (AT hlt (WX hlt ?_))))))))
     rw [GO hlt,AD]
     refine AT hlt2' (MB hlt hlt2' (BM (AW (fun he=> ?_) fun he=> ?_)))
     ·rw [if_pos he] at hR2
      exact DT ⟨by omega,by omega⟩ (BA (by omega) hR2)
     ·rw [if_neg he] at hR2
      exact BA (by omega) hR2
    ·have:j=(ob a i).field.length:=by
      have: ¬(j:Int)<((ob a i).field.length:Int):=hge2
      omega
     subst this
     rw [List.take_length] at hc ⊢
     exact BK (ML hge2 (C2 hge2 rfl (BU (BA (by omega) hR))))
   ·have hv:(ob a i).live=false:=by simpa using hv
    simp only [hv,Bool.false_eq_true,if_false] at hR hR2 ⊢
    refine A8 (BK (BK (BK (I4 (fun hlt2=> ?_) fun hge2=> ?_))))
    ·exact AT hlt (BK (H8 hlt2 (KR hlt (v:= .bool false) (by rw [←hv];rfl) (C6 hlt2 rfl (BU (BA (by omega) hR))))))
    ·exact BK (ML hge2 (C2 hge2 rfl (BU (BA (by omega) hR))))
  ·have:i=a.length:=by omega
   subst this
   rw [List.take_length];exact h
 ·rw [inE,if_neg (by rintro ⟨h1,h2⟩;simp_all)] at h;exact h
theorem YY {l:List Int} {i:Nat} {x:Int} (hi:i<l.length) (h:x∉l.take i) (hn:gI l i≠x):x∉l.take (i+1):=by
 rw [List.take_succ_eq_append_getElem hi,D4 hi]
 simp only [List.mem_append,List.mem_singleton,not_or]
 exact ⟨h,fun he=>hn he.symm⟩
theorem DW {l:List Int} {i:Nat} (h:i<l.length):gI l i∈l:=by rw [←D4 h];exact List.getElem_mem h
theorem Q8 {l:List Int} {x:Int} {K:J2} (hl:(l.length:Int)<2^62) (h:K [.bool (decide (x∈l))] []):cl2 ⟨Try.prog,w0⟩ 91 FO.sg [I x] [tI l] K:=by
 refine FO.cl2 ?_
 unfold FO.txt
 simp only [AH,AR,AN,AS,AJ,AD,AG,AP,AO,AK,AM,AL,AI,AQ,BD,BI,BH,BJ,BG,BF,BE,A5,AZ,A4,A6,A7,AY]
 refine BC (fun i=>[I x,iv l.length,iv i]) (fun _=>[]) l.length (fun i=>x∉l.take i) rfl rfl (by simp) (fun R i hi hP hR=> ?_)
 refine A8 (AW (fun hlt=> ?_) fun hge=> ?_)
 ·have hlt:i<l.length:=by omega
  refine AT hlt (ldI hlt (BM (AW (fun he=> ?_) fun he=> ?_)))
  ·rw [decide_eq_true (he ▸ DW hlt)] at h;exact h
  ·exact BA (by omega) (hR hlt (YY hlt hP he))
 ·have:i=l.length:=by omega
  subst this
  rw [List.take_length] at hP
  rw [decide_eq_false hP] at h;exact h
theorem OG {l:List Int} {x:Int} {K:J2} (hl:(l.length:Int)<2^62) (h:K [.bool (decide (x∈l))] []):cl2 ⟨Try.prog,w0⟩ 89 FV.sg [I x] [tI l] K:=by
 refine FV.cl2 ?_
 unfold FV.txt
 simp only [AH,AR,AN,AS,AJ,AD,AG,AP,AO,AK,AM,AL,AI,AQ,BD,BI,BH,BJ,BG,BF,BE,A5,AZ,A4,A6,A7,AY]
 refine BC (fun i=>[I x,iv i]) (fun _=>[]) l.length (fun i=>x∉l.take i) rfl rfl (by simp) (fun R i hi hP hR=> ?_)
 refine A8 (AW (fun hlt=> ?_) fun hge=> ?_)
 ·have hlt:i<l.length:=by omega
  refine AT hlt (ldI hlt (BM (AW (fun he=> ?_) fun he=> ?_)))
  ·rw [decide_eq_true (he ▸ DW hlt)] at h;exact h
  ·exact BA (by omega) (hR hlt (YY hlt hP he))
 ·have:i=l.length:=by omega
  subst this
  rw [List.take_length] at hP
  rw [decide_eq_false hP] at h;exact h
attribute [irreducible] inE CI
end Go.Proofs.Ytklmcfpgdfibnaa.P
namespace Go.Proofs.Ytklmcfpgdfibnaa.P
open Go Go.Proofs.Ytklmcfpgdfibnaa Go.Proofs.Ytklmcfpgdfibnaa.Eng
set_option linter.unusedVariables false
def inB (n lo hi:Int):Bool:=decide (n≥lo)&&decide (n≤hi)
def O1 (n:Int):Bool:=inB n (-1000000000) 1000000000
def sJ (a b c d:Int) (s:ByteArray):Bool:=(((O1 a&&O1 b)&&O1 c)&&O1 d)&&decide ((s.size:Int)≤8)
def vT (c v:Int) (l:List Int):Bool:=(inB c 0 6&&O1 v&&decide (l.length≤8))&&l.all O1
end Go.Proofs.Ytklmcfpgdfibnaa.P
namespace Go.Proofs.Ytklmcfpgdfibnaa.P
open Go Go.Proofs.Ytklmcfpgdfibnaa Go.Proofs.Ytklmcfpgdfibnaa.Eng
set_option linter.unusedVariables false
def MX (l:List Nat):ByteArray:=l.foldl (fun b n=>b.push (UInt8.ofNat n)) ByteArray.empty
theorem bA (l:List Nat):(MX l).size=l.length:=by
 have: ∀(l:List Nat) (b:ByteArray),(l.foldl (fun b n=>b.push (UInt8.ofNat n)) b).size=b.size+l.length:=by
  intro l
  induction l with
  | nil=>intro b;rfl
  | cons a l ih=>intro b;rw [List.foldl_cons,ih,ByteArray.size_push,List.length_cons];omega
 rw [MX,this];simp
def vd:Nat→Nat→List Nat
 | 0,n=>[n]
 | k+1,n=>if n≥128 then (128+n % 128)::vd k (n/128) else [n]
theorem lH: ∀k n,(vd k n).length≤k+1
 | 0,n=>by simp [vd]
 | k+1,n=>by
   unfold vd;split
   ·have:=lH k (n/128);simp only [List.length_cons];omega
   ·simp
def V (n:Int):ByteArray:=if inB n 0 562949953421311 then MX (vd 6 n.toNat) else ⟨#[]⟩
theorem RT (n:Int):(V n).size≤7:=by
 unfold V;split
 ·rw [bA];exact lH 6 _
 ·exact Nat.zero_le _
attribute [irreducible] V
end Go.Proofs.Ytklmcfpgdfibnaa.P
namespace Go.Proofs.Ytklmcfpgdfibnaa.P
open Go Go.Proofs.Ytklmcfpgdfibnaa Go.Proofs.Ytklmcfpgdfibnaa.Eng
set_option linter.unusedVariables false
def zg (n:Int):Int:=if inB n (-100000000000000) 100000000000000 then (if n<0 then -2*n-1 else 2*n) else -1
theorem iM {n lo hi:Int}:inB n lo hi=true↔lo≤n∧n≤hi:=by simp [inB]
def SI (n:Int):ByteArray:=V (zg n)
def ST (s:ByteArray):ByteArray:=if (s.size:Int)>8 then ⟨#[]⟩ else V s.size++s
theorem qE (s:ByteArray):(ST s).size≤15:=by
 unfold ST;split
 ·exact Nat.zero_le _
 ·have:=RT s.size
  rw [ByteArray.size_append];omega
theorem nR {a b:ByteArray} {p q:Prop} (h1:a=b→p) (h2:a≠b→q):AX (.bool (a.toList==b.toList)) p q:=
 RR (fun h=>h1 (e7 (by simpa using h))) (fun h=>h2 (by rintro rfl;simp at h))
instance :LawfulBEq ByteArray where
 eq_of_beq {a b} h:=by
  cases a;cases b
  have h:_==_:=h
  first | exact congrArg _ (eq_of_beq h) | (simp [BEq.beq,instBEqByteArray.beq] at h;simpa using h) | (simp_all)
 rfl {a}:=by
  cases a
  first | exact beq_self_eq_true (α:=Array UInt8) _ | (show ByteArray.beq _ _=true;unfold ByteArray.beq;simp) | (simp [BEq.beq,ByteArray.beq])
def at_ (l:List ByteArray) (s:ByteArray):Int:=if s∈l then (l.idxOf s:Int) else -1
theorem eA {l:List ByteArray} {s:ByteArray} {i:Nat} (hi:i<l.length) (h1:s∉l.take i) (h2:l[i]≠s):s∉l.take (i+1):=by
 rw [List.take_succ_eq_append_getElem hi]
 simp only [List.mem_append,List.mem_singleton,not_or]
 exact ⟨h1,fun h=>h2 h.symm⟩
theorem qF {l:List ByteArray} {s:ByteArray} {i:Nat} (hi:i<l.length) (h1:s∉l.take i) (h2:l[i]=s):at_ l s=i:=by
 have hm:s∈l:=h2 ▸ List.getElem_mem hi
 rw [at_,if_pos hm]
 have e:l=l.take i++l[i]::l.drop (i+1):=by rw [←List.drop_eq_getElem_cons hi,List.take_append_drop]
 have hx:l.idxOf s=i:=by
  rw [e,List.idxOf_append,if_neg h1,h2,List.idxOf_cons_self]
  simp;omega
 rw [hx]
theorem Q2 {w0:World} {s:ByteArray} {l:List ByteArray} {K:J2} (hl:(l.length:Int)<2^62) (h:K [I (at_ l s)] []):cl2 ⟨Try.prog,w0⟩ 162 FN.sg [.string s] [tS l] K:=by
 refine FN.cl2 ?_
 unfold FN.txt
 simp only [AG]
 refine BC (fun i=>[.string s,iv l.length,iv i]) (fun _=>[]) l.length (fun i=>s∉l.take i) rfl rfl (by simp) (fun R i hi hP hR=> ?_)
 refine qW (AW (fun hlt=> ?_) fun hge=> ?_)
 ·refine AT hlt (nA hlt (cA (nR (fun he=> ?_) fun hne=> ?_)))
  ·rw [qF hlt hP he] at h;exact h
  ·exact BA (by omega) (hR hlt (eA hlt hP hne))
 ·have:i=l.length:=by omega
  subst this
  rw [List.take_length] at hP
  rw [at_,if_neg hP] at h;exact h
theorem WK {w0:World} {s:ByteArray} {l:List ByteArray} {K:J2} (hl:(l.length:Int)<2^62) (h:K [.bool (decide (s∈l))] []):cl2 ⟨Try.prog,w0⟩ 159 G6.sg [.string s] [tS l] K:=by
 refine G6.cl2 (Q2 hl (LG ?_))
 have:decide (at_ l s≥0)=decide (s∈l):=by
  by_cases hm:s∈l <;> simp [at_,hm]
 rw [this];exact h
end Go.Proofs.Ytklmcfpgdfibnaa.P
namespace Go.Proofs.Ytklmcfpgdfibnaa.P
open Go Go.Proofs.Ytklmcfpgdfibnaa Go.Proofs.Ytklmcfpgdfibnaa.Eng
set_option linter.unusedVariables false
def szB (s:ByteArray):Bool:=decide ((s.size:Int)≤8)
def uQ (l:List ByteArray):Bool:=l.all szB&&decide l.Nodup
def uB (n:Int) (l:List ByteArray):Bool:=(O1 n&&decide (l.length≤400))&&uQ l
theorem aP {n i:Nat} (hi:i≤n) {K:Value→Value→Prop} (h:K (iv 0) (iv i)):scW n none (some (iv i)) K:=
 ⟨0,i,rfl,by simp [bnd,iv],Nat.zero_le _,hi,h⟩
def m4 (l:List ByteArray) (s:ByteArray):ByteArray:=if s∈l then V (at_ l s+1) else V 0++ST s
def vY (l:List ByteArray) (s:ByteArray):List ByteArray:=if s∈l then l else l++[s]
end Go.Proofs.Ytklmcfpgdfibnaa.P
namespace Go.Proofs.Ytklmcfpgdfibnaa.P
open Go Go.Proofs.Ytklmcfpgdfibnaa Go.Proofs.Ytklmcfpgdfibnaa.Eng
set_option maxHeartbeats 4000000
set_option linter.unusedVariables false
set_option linter.unusedSimpArgs false
attribute [local irreducible] prP gP gE gF AX ixW ldc ldg ldl stc stg scW mkW apW BN cl2 BV EN CJ
variable {w0:World}
theorem gV {a:List AV} {i:Nat} (hi:i<a.length):tR tO (a.take i)++[T.c (.bool (ob a i).live), .c (I (ob a i).gen), .c (I (ob a i).site), .c (I (ob a i).holds), .c (I (ob a i).roots), .c (I (ob a i).count), .l 1 (tI (ob a i).field), .c (.bool (ob a i).purple)]=tR tO (a.take (i+1)):=by
 rw [List.take_succ_eq_append_getElem hi,DF hi]
 exact oT _ (ob a i)
theorem ON {h:Hp} {K:J2} (hf:Fits h) (hk:K [] (trees h)):cl2 ⟨Try.prog,w0⟩ 97 DO.sg [] (trees h) K:=by
 obtain ⟨a,b,c,d⟩:=h
 have g1:=hf.ol;have g2:=hf.wl;have g3:=hf.sl;have g4:=hf.bl
 simp only at g1 g2 g3 g4
 refine DO.cl2 ?_
 unfold DO.txt
 simp only [AH,AR,AN,AS,AJ,AD,AG,AP,AO,AK,AM,AL,AI,AQ,BD,BI,BH,BJ,BG,BF,BE,A5,AZ,A4,A6,A7,AY]
 refine EJ (Z6 _) (by omega) (HW (by omega) (TI (by omega) ?_))
 refine BC (fun i=>[iv a.length,iv i]) (fun i=>[tR tO (a.take i),tR tW b,tI c,tS d]) a.length (fun _=>True) rfl rfl trivial (fun R i hi hP hR=> ?_)
 simp only [AH,AR,AN,AS,AJ,AD,AG,AP,AO,AK,AM,AL,AI,AQ,BD,BI,BH,BJ,BG,BF,BE,A5,AZ,A4,A6,A7,AY]
 refine A8 (AW (fun hlt=> ?_) fun hge=> ?_)
 ·have hlt:i<a.length:=by omega
  have hfo:((ob a i).field.length:Int)≤1048576:=rD (l:=a) hf.of hlt
  have hln:(a.take i).length=i:=by simp;omega
  replace hR:=hR hlt trivial
  refine AT hlt (KN hlt ?_)
  rw [GO hlt]
  refine HW (by omega) (lK (by rw [hln];omega) (BA (by omega) ?_))
  rw [←gV hlt] at hR
  exact hR
 ·have:i=a.length:=by omega
  subst this
  rw [List.take_length];exact hk
theorem KW {h:Hp} {K:J2} (hf:Fits h) (hk:K [] (trees h)):cl2 ⟨Try.prog,w0⟩ 122 C8.sg [] (trees h) K:=by
 obtain ⟨a,b,c,d⟩:=h
 have g1:=hf.ol;have g2:=hf.wl;have g3:=hf.sl;have g4:=hf.bl
 simp only at g1 g2 g3 g4
 refine C8.cl2 ?_
 unfold C8.txt
 simp only [AH,AR,AN,AS,AJ,AD,AG,AP,AO,AK,AM,AL,AI,AQ,BD,BI,BH,BJ,BG,BF,BE,A5,AZ,A4,A6,A7,AY]
 refine EJ (Z6 _) (by simp only [cnt,List.length_nil];omega) (EJ (MI _) (by omega) (EJ (ZE _) (by omega) ?_))
 refine BC (fun i=>[iv i]) (fun i=>[tR tO (a.take i),tR tW b,tI c,tS d]) a.length (fun _=>True) rfl rfl trivial (fun R i hi hP hR=> ?_)
 simp only [AH,AR,AN,AS,AJ,AD,AG,AP,AO,AK,AM,AL,AI,AQ,BD,BI,BH,BJ,BG,BF,BE,A5,AZ,A4,A6,A7,AY]
 refine A8 (AW (fun hlt=> ?_) fun hge=> ?_)
 ·have hlt:i<a.length:=by omega
  have hfo:((ob a i).field.length:Int)≤1048576:=rD (l:=a) hf.of hlt
  have hln:(a.take i).length=i:=by simp;omega
  replace hR:=hR hlt trivial
  refine AT hlt (KN hlt ?_)
  rw [GO hlt]
  refine EJ (MI _) (by first | omega | (simp only [AH,AR,AN,AS,AJ,AD,AG,AP,AO,AK,AM,AL,AI,AQ,BD,BI,BH,BJ,BG,BF,BE,A5,AZ,A4,A6,A7,AY];omega)) (lK (by rw [hln];omega) (BA (by omega) ?_))
  rw [←gV hlt] at hR
  exact hR
 ·have:i=a.length:=by omega
  subst this
  rw [List.take_length];exact hk
structure KX (l:List ByteArray):Prop where
 len:l.length≤6
 sz: ∀i,i<l.length→1≤((gS l i).size:Int)∧((gS l i).size:Int)≤8
 one: ∀i,i<l.length→gS l i∉l.take i
theorem eS {l:List ByteArray} {i:Nat} {x:ByteArray} (hi:i<l.length) (h:x∉l.take i) (hn:gS l i≠x):x∉l.take (i+1):=by
 rw [List.take_succ_eq_append_getElem hi,R8 hi]
 simp only [List.mem_append,List.mem_singleton,not_or]
 exact ⟨h,fun he=>hn he.symm⟩
theorem VE {l:List ByteArray} {K:J2} (hl:(l.length:Int)<2^62) (h1:KX l→K [.bool true] []) (h2: ¬KX l→K [.bool false] []):cl2 ⟨Try.prog,w0⟩ 129 F8.sg [] [tS l] K:=by
 refine F8.cl2 ?_
 unfold F8.txt
 simp only [AH,AR,AN,AS,AJ,AD,AG,AP,AO,AK,AM,AL,AI,AQ,BD,BI,BH,BJ,BG,BF,BE,A5,AZ,A4,A6,A7,AY]
 refine BC (fun i=>[iv l.length,iv i]) (fun _=>[]) l.length (fun i=> ∀k,k<i→(1≤((gS l k).size:Int)∧((gS l k).size:Int)≤8)∧gS l k∉l.take k) rfl rfl (fun k hk=>by omega) (fun R i hi hP hR=> ?_)
 simp only [AH,AR,AN,AS,AJ,AD,AG,AP,AO,AK,AM,AL,AI,AQ,BD,BI,BH,BJ,BG,BF,BE,A5,AZ,A4,A6,A7,AY]
 refine A8 (AW (fun hlt=> ?_) fun hge=> ?_)
 ·have hlt:i<l.length:=by omega
  refine AT hlt (ldS hlt (US (GR (DK (BK (BK (J3 (fun hb=> ?_) fun hb=> ?_)))))))
  ·refine aP (by omega) (BK (EY hb ?_))
   have e:GM (tS l) [] (AA (SQ (two (iv 0) (iv i)))*1) (AA (RY (two (iv 0) (iv i)))*1)=tS (l.take i):=by
    have h1:AA (SQ (two (iv 0) (iv i)))=0:=rfl
    have h2:AA (RY (two (iv 0) (iv i)))=i:=A9 i
    rw [h1,h2];simp [GM,node,tS,List.map_take]
   rw [e]
   refine WK (by simp;omega) (C2 hb rfl (AW (fun hm=>h2 fun hk=>hk.one i hlt hm) fun hm=> ?_))
   refine BA (by omega) (hR hlt fun k hk=> ?_)
   rcases Nat.lt_succ_iff_lt_or_eq.1 hk with h3 | rfl
   ·exact hP k h3
   ·exact ⟨Decidable.not_not.1 hb,hm⟩
  ·exact BK (KY hb (C6 hb rfl (B2 (h2 fun hk=>hb (hk.sz i hlt)))))
 ·have:i=l.length:=by omega
  subst this
  refine GY ?_
  by_cases h6:(l.length:Int)≤6
  ·rw [decide_eq_true h6]
   exact h1 ⟨by omega,fun i hi=>(hP i hi).1,fun i hi=>(hP i hi).2⟩
  ·rw [decide_eq_false h6]
   exact h2 fun hk=>by have:=hk.len;omega
structure NO (h:Hp) (i:Nat):Prop where
 gen:0≤(ob h.AE i).gen∧(ob h.AE i).gen≤999
 len:(ob h.AE i).field.length=3
 lead: ∀j,j<3→gI (ob h.AE i).field j≠ -1→(ob h.AE i).live=true∧0≤AB h.AE (gI (ob h.AE i).field j)
 dead:(ob h.AE i).live=false→(ob h.AE i).site=0∧(ob h.AE i).holds=0∧(ob h.AE i).roots=0∧(ob h.AE i).count=0∧(ob h.AE i).purple=false
 lv:(ob h.AE i).live=true→1≤(ob h.AE i).gen∧(0≤(ob h.AE i).site∧(ob h.AE i).site≤(h.sites.length:Int)-1)∧(0≤(ob h.AE i).holds∧(ob h.AE i).holds≤20)∧(0≤(ob h.AE i).roots∧(ob h.AE i).roots≤20)∧
  (ob h.AE i).count=(ob h.AE i).holds+(ob h.AE i).roots+inE h.AE i∧1≤(ob h.AE i).count∧(ob h.AE i).purple=decide (CE i (ob h.AE i).gen∈h.buffer)
structure B5 (h:Hp):Prop where
 ol:h.AE.length=8
 wl:h.B1.length=8
 sites:KX h.sites
 obj: ∀i,i<8→NO h i
 weak: ∀i,i<8→((wk h.B1 i).used=false→(wk h.B1 i).target=0)∧((wk h.B1 i).used=true→8≤(wk h.B1 i).target∧(wk h.B1 i).target≤7999)
 buf: ∀i,i<h.buffer.length→0≤AB h.AE (gI h.buffer i)∧gI h.buffer i∉h.buffer.take i
theorem rI {l:List Int} {P:Int→Prop} (h0:P 0) (h: ∀x∈l,P x) (i:Nat):P (gI l i):=by
 by_cases hi:i<l.length
 ·rw [←D4 hi];exact h _ (List.getElem_mem hi)
 ·unfold gI;rw [List.getD_eq_getElem?_getD,List.getElem?_eq_none (by omega)];exact h0
theorem VL:F64 0:=⟨by omega,by omega⟩
theorem RK.ob {h:Hp} (hn:RK h) (i:Nat):F64 (ob h.AE i).gen∧F64 (ob h.AE i).site∧F64 (ob h.AE i).holds∧F64 (ob h.AE i).roots∧F64 (ob h.AE i).count∧ ∀f∈(ob h.AE i).field,F64 f:=by
 by_cases hi:i<h.AE.length
 ·rw [←DF hi];exact hn.obj _ (List.getElem_mem hi)
 ·unfold Eng.ob;rw [List.getD_eq_getElem?_getD,List.getElem?_eq_none (by omega)]
  exact ⟨VL,VL,VL,VL,VL,fun f hf=>by simp at hf⟩
theorem RK.fld {h:Hp} (hn:RK h) (i j:Nat):F64 (gI (Eng.ob h.AE i).field j):=rI VL (hn.ob i).2.2.2.2.2 j
theorem RK.bf {h:Hp} (hn:RK h) (i:Nat):F64 (gI h.buffer i):=rI VL hn.buf i
theorem eO {l:List AV} (hl:(l.length:Int)≤1048576) (hf: ∀o∈l,(o.field.length:Int)≤1048576) (s:Int):0≤inE l s∧inE l s≤2^40:=by
 rw [inE];split
 ·have he:=NK (l:=l) (id:=CE s (ob l s.toNat).gen) (b:=1048576) fun o ho=>by have:=hf o ho;omega
  have hmul:l.length*1048576≤1048576*1048576:=Nat.mul_le_mul_right _ (by omega)
  omega
 ·omega
theorem aD {h:Hp} {i:Nat} {K:J2} (hf:Fits h) (hn:RK h) (hi:i<h.AE.length) (h1:NO h i→K [.bool true] []) (h2: ¬NO h i→K [.bool false] []):cl2 ⟨Try.prog,w0⟩ 130 HO.sg [I i] (trees h) K:=by
 have g1:=hf.ol;have g3:=hf.sl;have g4:=hf.bl
 refine HO.cl2 ?_
 unfold HO.txt
 simp only [AH,AR,AN,AS,AJ,AD,AG,AP,AO,AK,AM,AL,AI,AQ,BD,BI,BH,BJ,BG,BF,BE,A5,AZ,A4,A6,A7,AY]
 refine AT hi (KN hi ?_)
 rw [GO hi,AD]
 have hfo:=ZH hf.of i
 have hnum:=hn.ob i
 obtain ⟨⟨n1,n2⟩,⟨n3,n4⟩,_,_,⟨n5,n6⟩,_⟩:=hnum
 have hib:=eO hf.ol hf.of i
 refine GR (DK (BK (BK (BK (J3 (fun hg=> ?_) fun hg=> ?_)))))
 rotate_left
 ·exact C6 hg rfl (B2 (h2 fun hk=>hg hk.gen))
 refine CA (C2 hg rfl (AW (fun h3=>h2 fun hk=>by have:=hk.len;omega) fun h3=> ?_))
 have hl3:(ob h.AE i).field.length=3:=by omega
 have hg:0≤(ob h.AE i).gen∧(ob h.AE i).gen≤999:=Decidable.not_not.1 hg
 rw [hl3]
 refine BC (fun j=>[iv i,iv (AA (iv i)*8+6),iv 3,iv j, .bool (ob h.AE i).live,I (ob h.AE i).gen,I (ob h.AE i).site,I (ob h.AE i).holds,I (ob h.AE i).roots,I (ob h.AE i).count,iv (AA (iv i)*8+6), .bool (ob h.AE i).purple]) (fun _=>[]) 3 (fun j=> ∀k,k<j→gI (ob h.AE i).field k≠ -1→(ob h.AE i).live=true∧0≤AB h.AE (gI (ob h.AE i).field k)) rfl rfl (fun k hk=>by omega) (fun R j hj hP hR=> ?_)
 simp only [AH,AR,AN,AS,AJ,AD,AG,AP,AO,AK,AM,AL,AI,AQ,BD,BI,BH,BJ,BG,BF,BE,A5,AZ,A4,A6,A7,AY]
 rw [A9 (AA (iv i)*8+6),GO hi,AD,hl3]
 refine A8 (AW (fun hlt=> ?_) fun hge=> ?_)
 ·have hlt:j<3:=by omega
  refine AT hlt (MB hi (by omega) ?_)
  repeat' (first | refine CM (hn.fld i j) (by omega) ?_ | refine BK ?_ | refine PH ?_ | refine l7 ?_ | refine uC (by first | with_reducible assumption | omega) ?_ | refine vC (by first | with_reducible assumption | omega) ?_ | refine H8 (by first | with_reducible assumption | omega) ?_ | refine ML (by first | with_reducible assumption | omega) ?_ | refine PB (by with_reducible assumption) ?_ | refine Z1 (by with_reducible assumption) ?_ | refine kK (by with_reducible assumption) rfl ?_ | refine lB (by with_reducible assumption) rfl ?_ | refine C6 (by first | with_reducible assumption | omega) rfl ?_ | refine C2 (by first | with_reducible assumption | omega) rfl ?_ | refine B2 ?_ | refine BU ?_ | refine A8 ?_ | refine CA ?_ | refine BA (by omega) ?_ | refine AW (fun _=> ?_) (fun _=> ?_) | refine I4 (fun _=> ?_) (fun _=> ?_) | refine fO (fun _=> ?_) (fun _=> ?_) | refine B4 ?_)
  all_goals first
   | (refine hR hlt fun k hk hne=> ?_
      rcases Nat.lt_succ_iff_lt_or_eq.1 hk with h4 | rfl
      ·exact hP k h4 hne
      ·first
       | exact absurd hne (by assumption)
       | exact ⟨by simp_all,by omega⟩)
   | (refine h2 fun hk=> ?_
      have h4:=hk.lead j hlt (by assumption)
      first
       | omega
       | simp_all)
 ·have hj3:j=3:=by omega
  subst hj3
  cases hv:(ob h.AE i).live with
  | false=>
    have mk:(ob h.AE i).site=0→(ob h.AE i).holds=0→(ob h.AE i).roots=0→(ob h.AE i).count=0→(ob h.AE i).purple=false→NO h i:=fun a b c d e=>⟨hg,hl3,hP,fun _=>⟨a,b,c,d,e⟩,fun hh=>by rw [hv] at hh;cases hh⟩
    refine B4 (B2 ?_)
    cases hpu:(ob h.AE i).purple
    ·repeat' (first | refine BK ?_ | refine JZ ?_ | refine C6 (by first | with_reducible assumption | omega) rfl ?_ | refine C2 (by first | with_reducible assumption | omega) rfl ?_ | refine TJ rfl ?_ | refine BM ?_ | refine I4 (fun _=> ?_) (fun _=> ?_) | refine B4 ?_)
     all_goals first
      | exact h1 (mk (by assumption) (by assumption) (by assumption) (by assumption) hpu)
      | (refine h2 fun hk=> ?_
         have h4:=hk.dead hv
         omega)
    ·repeat' (first | refine BK ?_ | refine JZ ?_ | refine C6 (by first | with_reducible assumption | omega) rfl ?_ | refine C2 (by first | with_reducible assumption | omega) rfl ?_ | refine TJ rfl ?_ | refine BM ?_ | refine I4 (fun _=> ?_) (fun _=> ?_) | refine B4 ?_)
     all_goals
      refine h2 fun hk=> ?_
      have h4:=hk.dead hv
      rw [hpu] at h4
      first
       | omega
       | exact absurd h4.2.2.2.2 (by decide)
  | true=>
    refine B4 (BU ?_)
    have fin:1≤(ob h.AE i).gen→(0≤(ob h.AE i).site∧(ob h.AE i).site≤(h.sites.length:Int)-1)→(0≤(ob h.AE i).holds∧(ob h.AE i).holds≤20)→(0≤(ob h.AE i).roots∧(ob h.AE i).roots≤20)→(ob h.AE i).count=(ob h.AE i).holds+(ob h.AE i).roots+inE h.AE i→1≤(ob h.AE i).count→K [.bool (decide ((ob h.AE i).purple=decide (CE i (ob h.AE i).gen∈h.buffer)))] []:=fun a b c d e f=>by
     by_cases hp:(ob h.AE i).purple=decide (CE i (ob h.AE i).gen∈h.buffer)
     ·rw [decide_eq_true hp]
      exact h1 ⟨hg,hl3,hP,fun hh=>(by rw [hv] at hh;cases hh),fun _=>⟨a,b,c,d,e,f,hp⟩⟩
     ·rw [decide_eq_false hp]
      exact h2 fun hk=>hp (hk.lv hv).2.2.2.2.2.2
    have no: ∀{P:Prop}, ¬P→(NO h i→P)→K [.bool false] []:=fun hp hi=>h2 fun hk=>hp (hi hk)
    repeat' (first | refine GR ?_ | refine MD ⟨by omega,by omega⟩ (by omega) hf.of ?_ | refine JD ?_ | refine Q8 (by omega) ?_ | refine BK ?_ | refine JZ ?_ | refine H8 (by first | with_reducible assumption | omega) ?_ | refine ML (by first | with_reducible assumption | omega) ?_ | refine C6 (by first | with_reducible assumption | omega) rfl ?_ | refine C2 (by first | with_reducible assumption | omega) rfl ?_ | refine TJ rfl ?_ | refine GY ?_ | refine BM ?_ | refine DT ⟨by omega,by omega⟩ ?_ | refine H6 ⟨by omega,by omega⟩ ?_ | refine pF ?_ | refine I4 (fun _=> ?_) (fun _=> ?_))
    all_goals first
     | exact fin (by assumption) (by assumption) (by assumption) (by assumption) (by assumption) (by assumption)
     | (refine h2 fun hk=> ?_
        have h4:=hk.lv hv
        omega)
end Go.Proofs.Ytklmcfpgdfibnaa.P
