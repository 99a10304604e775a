/- A part of the proof. -/
import Derived.Test.YtklmcfpgdfibnaaGgWayA
import Derived.Test.YtklmcfpgdfibnaaGgKepA
import Derived.Test.YtklmcfpgdfibnaaGgGrpC
namespace Go.Proofs.Ytklmcfpgdfibnaa.P
open Go Go.Proofs.Ytklmcfpgdfibnaa Go.Proofs.Ytklmcfpgdfibnaa.Eng
set_option linter.unusedVariables false
theorem tE {l:List Nd} {i k:Nat} {v:Nd} (hk:k<l.length):nd (l.set k v) i=if i=k then v else nd l i:=by
 unfold nd
 by_cases h:i=k
 ·subst h
  rw [if_pos rfl,List.getD_eq_getElem?_getD,List.getElem?_set_self hk];rfl
 ·rw [if_neg h,List.getD_eq_getElem?_getD,List.getElem?_set_ne (Ne.symm h),List.getD_eq_getElem?_getD]
set_option maxHeartbeats 4000000
set_option linter.unusedVariables false
set_option linter.unusedSimpArgs false
attribute [local irreducible] prP gP gE gF AV ixW ldc ldg ldl stc stg scW mkW apW BC cl2 BS CU B1
variable {w0:World}
end Go.Proofs.Ytklmcfpgdfibnaa.P
namespace Go.Proofs.Ytklmcfpgdfibnaa.P
open Go Go.Proofs.Ytklmcfpgdfibnaa Go.Proofs.Ytklmcfpgdfibnaa.Eng
set_option linter.unusedVariables false
set_option maxHeartbeats 4000000
set_option linter.unusedVariables false
set_option linter.unusedSimpArgs false
attribute [local irreducible] prP gP gE gF AV ixW ldc ldg ldl stc stg scW mkW apW BC cl2 BS CU B1
variable {w0:World}
end Go.Proofs.Ytklmcfpgdfibnaa.P
namespace Go.Proofs.Ytklmcfpgdfibnaa.P
open Go Go.Proofs.Ytklmcfpgdfibnaa Go.Proofs.Ytklmcfpgdfibnaa.Eng
set_option linter.unusedVariables false
theorem sU {l:List Int} {i:Nat} {v:Int} {K:List T→Prop} (hi:i<l.length) (h:K (tI (l.set i v))):stc (tI l) [] (AB (iv i)*1) (I v) K:=by
 refine ⟨⟨I l[i], ?_⟩, ?_⟩
 ·rw [AW,Nat.mul_one]
  show (tI l)[i]? =_
  exact aB hi
 ·have hl:i<(tI l).length:=by simpa [tI] using hi
  have e:H4 (tI l) [] (AB (iv i)*1) [.c (I v)]=tI (l.set i v):=by
   rw [AW,Nat.mul_one]
   unfold H4
   simp only [node,GD]
   rw [S0 hl,lS]
  rw [e];exact h
set_option maxHeartbeats 4000000
set_option linter.unusedVariables false
set_option linter.unusedSimpArgs false
attribute [local irreducible] prP gP gE gF AV ixW ldc ldg ldl stc stg scW mkW apW BC cl2 BS CU B1
variable {w0:World}
theorem uK {l:List Int} {K:J2} (hl:l.length≤1000) (h: ∀out:List Int,out.Perm l→out.Pairwise (· ≤ ·)→K [] [tI out]):IQ.txt ⟨Try.prog,w0⟩ (tI l) K:=by
 unfold IQ.txt
 simp only [AK,AO,AL,AM,AT,AE,AJ,AI,AR,AQ,AN,AU,AP,AS,BG,BO,BL,BN,BM,BP,BK,A5,A6,A8,AZ,A7,A4]
 refine D9 (KK l) (by omega) ?_
 rw [List.nil_append]
 refine EY (α:=Nat×List Int) (fun s=>[iv s.1]) (fun s=>[tI s.2]) (fun s=>l.length-s.1) (fun s=>s.1≤l.length∧s.2.Perm l∧upI s.1 s.2) (0,l) rfl rfl ⟨Nat.zero_le _,List.Perm.refl _,fun a b h1 h2=>by simp only at h2;omega⟩ (fun R s hs hR=> ?_)
 obtain ⟨i,q⟩:=s
 obtain ⟨hi,hp,hu⟩:=hs
 simp only at hi hp hu
 have ql:=hp.length_eq
 simp only [AK,AO,AL,AM,AT,AE,AJ,AI,AR,AQ,AN,AU,AP,AS,BG,BO,BL,BN,BM,BP,BK,A5,A6,A8,AZ,A7,A4]
 refine BA (A9 (fun hlt=> ?_) fun hge=> ?_)
 ·have hlt:i<l.length:=by omega
  refine EY (α:=Nat×List Int) (fun s=>[iv i,iv s.1]) (fun s=>[tI s.2]) (fun s=>s.1) (fun s=>ZM l i s.1 s.2) (i,q) rfl rfl (ZM.start hp hu) (fun R2 s hs hR2=> ?_)
  obtain ⟨k,q2⟩:=s
  simp only at hs
  have ql2:=hs.pm.length_eq
  have ki:=hs.ki
  simp only [AK,AO,AL,AM,AT,AE,AJ,AI,AR,AQ,AN,AU,AP,AS,BG,BO,BL,BN,BM,BP,BK,A5,A6,A8,AZ,A7,A4]
  have fin:(k=0∨gI q2 (k-1)≤gI q2 k)→prP (bnI .add (iv i) (I 1)) fun t15_29=>R [t15_29] [tI q2]:=fun he=>BB (by omega) (hR (i+1,q2) ⟨hlt,hs.pm,hs.done he⟩ (by simp only;omega))
  refine HR (BD (BD ?_))
  by_cases h0:(k:Int)>0
  ·have kl:k<q2.length:=by omega
   have e1:(k:Int)-1=((k-1:Nat):Int):=by omega
   refine HG h0 (AH kl (HG h0 (ldI kl (BD (BD (HG h0 (G4 ⟨by omega,by omega⟩ ?_)))))))
   rw [e1]
   refine HG h0 (AH (by omega) (HG h0 (ldI (by omega) (HG h0 (BA (ER h0 rfl (A9 (fun hc=> ?_) fun hc=> ?_)))))))
   ·refine AH kl (ldI kl (G4 ⟨by omega,by omega⟩ ?_))
    rw [e1]
    refine AH (by omega) (ldI (by omega) (AH kl (sU kl (G4 ⟨by omega,by omega⟩ ?_))))
    rw [e1]
    refine AH (by rw [AE,List.length_set];omega) (sU (by rw [List.length_set];omega) (G4 ⟨by omega,by omega⟩ ?_))
    rw [e1]
    exact hR2 (k-1,swp q2 k) (hs.swap (by omega) (by omega) hc) (by simp only;omega)
   ·exact fin (.inr (by omega))
  ·exact KE h0 (KE h0 (BD (BD (KE h0 (KE h0 (KE h0 (KE h0 (EW h0 rfl (B4 (fin (.inl (by omega))))))))))))
 ·have:i=l.length:=by omega
  subst this
  exact h q hp (kL (by rw [ql];exact hu))
theorem P8 {l:List Int} {K:J2} (hl:l.length≤1000) (h: ∀out:List Int,out.Perm l→out.Pairwise (· ≤ ·)→K [] [tI out]):cl2 ⟨Try.prog,w0⟩ 66 F8.sg [] [tI l] K:=F8.cl2 (uK (w0:=w0) hl h)
structure NOk (a:List Nd):Prop where
 len:a.length=8
 nd: ∀i,i<8→(nd a i).field.length=3∧(∀f∈(Eng.nd a i).field,F64 f)∧(0≤(Eng.nd a i).gen∧(Eng.nd a i).gen≤1000)∧(0≤(Eng.nd a i).holds∧(Eng.nd a i).holds≤20)∧(0≤(Eng.nd a i).roots∧(Eng.nd a i).roots≤20)
theorem NOk.fl {a:List Nd} (h:NOk a): ∀i,i<8→(Eng.nd a i).field.length≤1000∧ ∀f∈(Eng.nd a i).field,F64 f:=fun i hi=>⟨by rw [(h.nd i hi).1];omega,(h.nd i hi).2.1⟩
theorem NOk.set {a:List Nd} (h:NOk a) {k:Nat} {v:Nd} (hk:k<8) (h1:v.field.length=3) (h2: ∀f∈v.field,F64 f) (h3:0≤v.gen∧v.gen≤1000) (h4:0≤v.holds∧v.holds≤20) (h5:0≤v.roots∧v.roots≤20):NOk (a.set k v):=by
 have hl:=h.len
 refine ⟨by simp [hl],fun i hi=> ?_⟩
 rw [tE (by omega)]
 split
 ·exact ⟨h1,h2,h3,h4,h5⟩
 ·exact h.nd i hi
def aR (g:Int):Nd:=⟨false,g,0,0,0,M5⟩
theorem qV: ∀f∈M5,F64 f:=by simp [M5,F64]
theorem NOk.free {a:List Nd} (h:NOk a) {k:Nat} (hk:k<8):NOk (a.set k (aR (Eng.nd a k).gen)):=h.set hk rfl qV (h.nd k hk).2.2.1 ⟨by simp [aR],by simp [aR]⟩ ⟨by simp [aR],by simp [aR]⟩
end Go.Proofs.Ytklmcfpgdfibnaa.P
namespace Go.Proofs.Ytklmcfpgdfibnaa.P
open Go Go.Proofs.Ytklmcfpgdfibnaa Go.Proofs.Ytklmcfpgdfibnaa.Eng
set_option linter.unusedVariables false
theorem jN {l:List (List Int)} {i:Nat} (hi:i<l.length):(l.take (i+1)).flatten=(l.take i).flatten++gG l i:=by
 rw [List.take_succ_eq_append_getElem hi,List.flatten_append,TD hi];simp
theorem lU {l:List (List Int)} (hn:l.flatten.Nodup) {i k:Nat} (hi:i<l.length) (hk:k<(gG l i).length):gI (gG l i) k∉(l.take i).flatten++(gG l i).take k:=by
 have e:l=l.take i++(gG l i::l.drop (i+1)):=by
  rw [←TD hi, ←List.drop_eq_getElem_cons hi,List.take_append_drop]
 rw [e,List.flatten_append,List.flatten_cons] at hn
 have h1:=List.nodup_append.1 hn
 have h2:=List.nodup_append.1 h1.2.1
 intro hm
 rcases List.mem_append.1 hm with hm | hm
 ·exact h1.2.2 _ hm _ (List.mem_append_left _ (CH hk)) rfl
 ·obtain ⟨j,hj,he⟩:=List.mem_take_iff_getElem.1 hm
  rw [←CN hk] at he
  have:=(List.getElem_inj h2.1).1 he
  omega
theorem q8 {l:List (List Int)} {R:List Int→List Int→Prop} (h:l.Pairwise R) {i k:Nat} (hi:i<l.length) (hk:k<i):R (gG l k) (gG l i):=by
 rw [←TD hi, ←TD (by omega:k<l.length)]
 exact List.pairwise_iff_getElem.1 h k i (by omega) hi hk
set_option maxHeartbeats 4000000
set_option linter.unusedVariables false
set_option linter.unusedSimpArgs false
attribute [local irreducible] prP gP gE gF AV ixW ldc ldg ldl stc stg scW mkW apW BC cl2 BS CU B1
variable {w0:World}
theorem Q8 {L:List Int} {K:J2} (hb:QU L) (h: ∀(x:Hp),oV x→K [] (trees x)):cl2 ⟨Try.prog,w0⟩ 62 DD.sg [] [tY L] K:=by
 refine DD.cl2 ?_
 unfold DD.txt
 exact Z6 hb fun z=>ZR hb (Nat.zero_le _) fun x i1 z1 hx h1=>h x hx
theorem RM {l:List (List Int)} {K:J2} (hl:l.length≤1000) (hg: ∀g∈l,g.length≤1000) (h:K [.bool true] []):cl2 ⟨Try.prog,w0⟩ 67 DC.sg [] [tG l,tG l] K:=by
 refine DC.cl2 ?_
 unfold DC.txt
 simp only [IY,List.length_map]
 refine CY (DP (fun hh=>hh rfl) ?_)
 refine BF (fun i=>[iv i]) (fun _=>[]) l.length (fun _=>True) rfl rfl trivial (fun R i hi _ hR=> ?_)
 simp only [AK,AO,AL,AM,AT,AE,AJ,AI,AR,AQ,AN,AU,AP,AS,BG,BO,BL,BN,BM,BP,BK,A5,A6,A8,AZ,A7,A4]
 refine BA (A9 (fun hlt=> ?_) fun hge=>h)
 have hlt:i<l.length:=by omega
 have ha:=RA hlt
 have gl:=hg _ (OH hlt)
 refine AH hlt (IL ha (AH hlt (IL ha ?_)))
 rw [IK ha]
 exact W8 (by omega) (CX (B4 (BB (by omega) (hR hlt trivial))))
theorem fF {L:List Int} (g:U4 L) {K:J2} (done:K [.bool true] []):FF.txt ⟨Try.prog,w0⟩ (tY L) K:=by
 unfold FF.txt
 refine fJ (A9 (fun _=>done) fun hsz=> ?_)
 have hb:=g.f hsz
 refine Q8 hb fun h hx=>P3 hx.fits hx.I8 (fun ok=> ?_) fun _=>CX (CG done)
 refine CX (B4 ?_)
 have ol8:=ok.ol
 have ol:=hx.fits.ol
 have hform:=fun g hg=>S6 ok (g:=g) hg
 obtain ⟨gl8,ge8⟩:=aH ok
 have hinv:=WY ok
 have hperm:=X4 ok
 have hfn:(PT h.AD).flatten.Nodup:=hperm.nodup_iff.2 (L8 ok)
 have hap:(PT h.AD).Pairwise fun a b=>muB h.AD (gI b 0) (gI a 0)=false:=hinv.apart
 have hrl:(c7 h.AD).length=((PT h.AD).filter (isRing h.AD)).length:=rfl
 have ll:=NG h.AD
 have hS:=fun {a b:Int} {K:J2} (ha:a∈CD h.AD) (hb:b∈CD h.AD) (hK:K [.bool (ldB h.AD a b)] [])=>RS (w0:=w0) (K:=K) ok (B8 (by have:=ok.H8 (DG ok ha);omega)) (B8 (by have:=ok.H8 (DG ok hb);omega)) (DG ok ha) (DG ok hb) hK
 have hI:=fun {a b:Int} {K:J2} (ha:a∈CD h.AD) (hb:b∈CD h.AD) (hK:K [.bool (ldB h.AD a b)] [])=>N4 (w0:=w0) (K:=K) ok (B8 (by have:=ok.H8 (DG ok ha);omega)) (B8 (by have:=ok.H8 (DG ok hb);omega)) (DG ok ha) (DG ok hb) hK
 have hrings:=fun {K:J2} (hK:K [] [tG (c7 h.AD)])=>Y0 (w0:=w0) (K:=K) ok hK
 have hgroups:=fun {K:J2} (hK:K [] [tG (PT h.AD)])=>XC (w0:=w0) (K:=K) ok hK
 refine QD ok ?_
 clear hinv
 try simp only [trees]
 generalize PT h.AD=l at hform gl8 ge8 hperm hfn hap hrl hgroups ⊢
 have flen: ∀i,i≤l.length→(l.take i).flatten.length≤8:=fun i _=>by
  have hpl:=hperm.length_eq
  have:(l.take i).flatten.length≤l.flatten.length:=by
   conv=>rhs;rw [←List.take_append_drop i l]
   rw [List.flatten_append,List.length_append];omega
  omega
 simp only [AK,AO,AL,AM,AT,AE,AJ,AI,AR,AQ,AN,AU,AP,AS,BG,BO,BL,BN,BM,BP,BK,A5,A6,A8,AZ,A7,A4]
 refine BF (fun i=>[iv i]) (fun i=>[tG l,tI (l.take i).flatten,tR tO h.AD,tR tW h.B2,tI h.buffer,tS h.sites]) l.length (fun _=>True) rfl rfl trivial (fun R i hi _ hR=> ?_)
 have f1:=flen i hi
 simp only [AK,AO,AL,AM,AT,AE,AJ,AI,AR,AQ,AN,AU,AP,AS,BG,BO,BL,BN,BM,BP,BK,A5,A6,A8,AZ,A7,A4]
 simp only [IY,List.length_map]
 refine BA (A9 (fun hlt=> ?_) fun hge=> ?_)
 ·have hlt:i<l.length:=by omega
  have hR:=hR hlt trivial
  have ha:=RA hlt
  obtain ⟨g1,g2,g3⟩:=hform _ (OH hlt)
  have g4:=ge8 _ (OH hlt)
  have h0:=g2 _ (CH g1)
  have f2:=flen (i+1) (by omega)
  rw [jN hlt] at hR f2
  rw [List.length_append] at f2
  refine AH hlt (IL ha ?_)
  rw [IK ha]
  simp only [AE]
  refine BZ (DP (by omega) ?_)
  refine BF (fun k=>[iv i,iv k]) (fun k=>[tG l,tI ((l.take i).flatten++(gG l i).take k),tR tO h.AD,tR tW h.B2,tI h.buffer,tS h.sites]) (gG l i).length (fun _=>True) rfl (by simp) trivial (fun R2 k hk _ hR2=> ?_)
  have tl:((l.take i).flatten++(gG l i).take k).length=(l.take i).flatten.length+k:=by rw [List.length_append,List.length_take];omega
  simp only [AK,AO,AL,AM,AT,AE,AJ,AI,AR,AQ,AN,AU,AP,AS,BG,BO,BL,BN,BM,BP,BK,A5,A6,A8,AZ,A7,A4]
  simp only [IY,List.length_map]
  refine AH hlt (IL ha ?_)
  rw [IK ha]
  simp only [AE]
  refine BA (A9 (fun hlk=> ?_) fun hgk=> ?_)
  ·have hlk:k<(gG l i).length:=by omega
   have hR2:=hR2 hlk trivial
   have hkm:=g2 _ (CH hlk)
   rw [List.take_succ_eq_append_getElem hlk,CN hlk, ←List.append_assoc, ←DS] at hR2
   refine AH hlt (IL ha ?_)
   rw [IK ha]
   refine AH (by rw [AE];exact hlk) (LH ha hlk (dB (by omega) (DP (lU hfn hlt hlk) (D9 rfl (by first | omega | (simp only [AE,AI];omega)) (HR (BD (BD (BD ?_))))))))
   by_cases hk0:(k:Int)>0
   ·have hmu:=g3 k (by omega) hlk
    unfold muB at hmu
    rw [Bool.and_eq_true] at hmu
    rw [decide_eq_true hk0]
    refine D6 (AH hlt (BD (D6 (IL ha ?_))))
    rw [IK ha]
    refine D6 (AH (j:=0) (by rw [AE];exact g1) (D6 (LH ha g1 (BD (D6 (hS h0 hkm ?_))))))
    rw [hmu.1]
    refine D6 (CX (BD ?_))
    simp only [B1]
    refine BD (BD (BD (BD (H0 (AH hlt (BD (H0 (IL ha ?_))))))))
    rw [IK ha]
    refine H0 (AH (j:=0) (by rw [AE];exact g1) (H0 (LH ha g1 (H0 (hI hkm h0 ?_)))))
    rw [hmu.2]
    exact H0 (CX (D6 (SO rfl (QM rfl (B4 (BB (by omega) hR2))))))
   ·rw [decide_eq_false hk0]
    refine DY (BD (DY (DY (DY (BD (DY (DY (BD ?_))))))))
    simp only [B1]
    exact pF (pF (pF (pF (e6 (pF (e6 (e6 (e6 (e6 (e6 (DY (SO rfl (B4 (BB (by omega) hR2))))))))))))))
  ·have:k=(gG l i).length:=by omega
   subst this
   rw [List.take_length]
   refine BF (fun k=>[iv i,iv k]) (fun _=>[tG l,tI ((l.take i).flatten++gG l i),tR tO h.AD,tR tW h.B2,tI h.buffer,tS h.sites]) i (fun _=>True) rfl rfl trivial (fun R3 k hk _ hR3=> ?_)
   simp only [AK,AO,AL,AM,AT,AE,AJ,AI,AR,AQ,AN,AU,AP,AS,BG,BO,BL,BN,BM,BP,BK,A5,A6,A8,AZ,A7,A4]
   simp only [IY,List.length_map]
   refine BA (A9 (fun hlk=> ?_) fun hgk=> ?_)
   ·have hlk:k<i:=by omega
    have hR3:=hR3 hlk trivial
    have hkl:k<l.length:=by omega
    have hak:=RA hkl
    obtain ⟨q1,q2,_⟩:=hform _ (OH hkl)
    have q0:=q2 _ (CH q1)
    have hmu:=q8 hap hlt hlk
    unfold muB at hmu
    refine AH hkl (IL hak ?_)
    rw [IK hak]
    simp only [AE]
    have p1: ¬((gG l k).length:Int)=0:=by omega
    refine BZ ?_
    rw [decide_eq_false p1]
    refine BD (BD (BD (H0 (AH hlt (BD (H0 (IL ha ?_)))))))
    rw [IK ha]
    refine H0 (AH (j:=0) (by rw [AE];exact g1) (H0 (LH ha g1 (BD (BD (H0 (AH hkl (BD (H0 (IL hak ?_))))))))))
    rw [IK hak]
    refine H0 (AH (j:=0) (by rw [AE];exact q1) (H0 (LH hak q1 (H0 (hS h0 q0 (BD ?_))))))
    simp only [BG]
    cases e1:ldB h.AD (gI (gG l i) 0) (gI (gG l k) 0) with
    | false=>
      simp only [B1]
      exact BD (BD (BD (DY (BD (DY (DY (DY (BD (BD (DY (BD (DY (DY (DY (DY (H0 (SO rfl (SO rfl (B4 (BB (by omega) hR3))))))))))))))))))))
    | true=>
      rw [e1,Bool.true_and] at hmu
      simp only [B1]
      refine BD (BD (BD (D6 (AH hkl (BD (D6 (IL hak ?_)))))))
      rw [IK hak]
      refine D6 (AH (j:=0) (by rw [AE];exact q1) (D6 (LH hak q1 (BD (BD (D6 (AH hlt (BD (D6 (IL ha ?_))))))))))
      rw [IK ha]
      refine D6 (AH (j:=0) (by rw [AE];exact g1) (D6 (LH ha g1 (D6 (hS q0 h0 ?_)))))
      rw [hmu]
      exact H0 (QM rfl (SO rfl (B4 (BB (by omega) hR3))))
   ·exact BB (by omega) hR
 have:i=l.length:=by omega
 subst this
 clear hR R f1
 rw [List.take_length]
 refine hrings ?_
 simp only [AK,AO,AL,AM,AT,AE,AJ,AI,AR,AQ,AN,AU,AP,AS,BG,BO,BL,BN,BM,BP,BK,A5,A6,A8,AZ,A7,A4]
 refine BF (fun i=>[iv ((l.take i).filter (isRing h.AD)).length,iv i]) (fun _=>[tG l,tI l.flatten,tG (c7 h.AD),tR tO h.AD,tR tW h.B2,tI h.buffer,tS h.sites]) l.length (fun _=>True) rfl rfl trivial (fun R i hi _ hR=> ?_)
 have fl:((l.take i).filter (isRing h.AD)).length≤i:=Nat.le_trans (List.length_filter_le _ _) (by rw [List.length_take];omega)
 simp only [AK,AO,AL,AM,AT,AE,AJ,AI,AR,AQ,AN,AU,AP,AS,BG,BO,BL,BN,BM,BP,BK,A5,A6,A8,AZ,A7,A4]
 simp only [iJ,IY,List.length_map]
 refine BA (A9 (fun hlt=>BX ?_) fun hge=> ?_)
 ·have hlt:i<l.length:=by omega
  have hR:=hR hlt trivial
  have ha:=RA hlt
  obtain ⟨g1,g2,g3⟩:=hform _ (OH hlt)
  have g4:=ge8 _ (OH hlt)
  have h0:=g2 _ (CH g1)
  rw [LM hlt,TD hlt] at hR
  refine AH hlt (IL ha ?_)
  rw [IK ha]
  simp only [AE]
  have yes:isRing h.AD (gG l i)=true→prP (bnI .add (iv ((l.take i).filter (isRing h.AD)).length) (I 1)) fun t171_114=>prP (bnI .add (iv i) (I 1)) fun t144_115=>R [t171_114,t144_115] [tG l,tI l.flatten,tG (c7 h.AD),tR tO h.AD,tR tW h.B2,tI h.buffer,tS h.sites]:=fun hy=>by
   rw [if_pos hy,List.length_append,List.length_singleton] at hR
   exact BB (by omega) (BB (by omega) hR)
  have no:isRing h.AD (gG l i)=false→prP (bnI .add (iv i) (I 1)) fun t144_115=>R [iv ((l.take i).filter (isRing h.AD)).length,t144_115] [tG l,tI l.flatten,tG (c7 h.AD),tR tO h.AD,tR tW h.B2,tI h.buffer,tS h.sites]:=fun hy=>by
   rw [hy] at hR
   simp only [Bool.false_eq_true,if_false,List.append_nil] at hR
   exact BB (by omega) hR
  refine HR (BD (BD (BD ?_)))
  by_cases hl1:((gG l i).length:Int)>1
  ·refine G9 hl1 (BD (G9 hl1 (G9 hl1 (G9 hl1 (BD (BD (G9 hl1 (BD (G9 hl1 (G9 hl1 (G9 hl1 (G9 hl1 (ER hl1 rfl (CG ?_))))))))))))))
   exact yes (by unfold isRing;simp;left;omega)
  ·refine EN hl1 (AH hlt (BD (EN hl1 (IL ha ?_))))
   rw [IK ha]
   refine EN hl1 (AH (j:=0) (by rw [AE];exact g1) (EN hl1 (LH ha g1 (BD (BD (EN hl1 (AH hlt (BD (EN hl1 (IL ha ?_))))))))))
   rw [IK ha]
   refine EN hl1 (AH (j:=0) (by rw [AE];exact g1) (EN hl1 (LH ha g1 (EN hl1 (hS h0 h0 (EW hl1 rfl ?_))))))
   simp only [BG]
   cases e1:ldB h.AD (gI (gG l i) 0) (gI (gG l i) 0) with
   | true=>exact CG (yes (by unfold isRing;rw [e1];simp))
   | false=>exact B4 (no (by unfold isRing;rw [e1,decide_eq_false (by omega)];rfl))
 have:i=l.length:=by omega
 subst this
 clear hR R
 rw [List.take_length] at fl ⊢
 have hpl:=hperm.length_eq
 refine I7 ol ?_
 simp only [AK,AO,AL,AM,AT,AE,AJ,AI,AR,AQ,AN,AU,AP,AS,BG,BO,BL,BN,BM,BP,BK,A5,A6,A8,AZ,A7,A4]
 have e1:(l.flatten.length:Int)=((CD h.AD).length:Nat):=by omega
 refine BZ (BD (iT e1 (P8 (by omega) fun o1 p1 s1=>BD (iT e1 (I7 ol (iT e1 (P8 (by omega) fun o2 p2 s2=> ?_)))))))
 have eo:o1=o2:=jW ((p1.trans hperm).trans p2.symm) s1 s2
 subst eo
 have o1l:=p1.length_eq
 have e2:((c7 h.AD).length:Int)=((l.filter (isRing h.AD)).length:Nat):=by omega
 refine HG e1 (T7 (by omega) (ER e1 rfl (BD (BD (BD (D6 ?_))))))
 try simp only [IY,List.length_map]
 refine BZ (QM rfl (BD (BD (iT e2 (hgroups (HG e2 (RM (by omega) (fun g hg=>by have:=ge8 g hg;omega) (ER e2 rfl done))))))))
end Go.Proofs.Ytklmcfpgdfibnaa.P
