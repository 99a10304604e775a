/- A part of the proof. -/
import Derived.Test.YtnhicpkhkaihoaaEvHpA
import Derived.Test.YtnhicpkhkaihoaaEvLawTyNode
import Derived.Test.YtnhicpkhkaihoaaEvRowT
import Derived.Test.YtnhicpkhkaihoaaEvTxtB
namespace Go.Proofs.Ytnhicpkhkaihoaa.P
open Go Go.Proofs.Ytnhicpkhkaihoaa Go.Proofs.Ytnhicpkhkaihoaa.Eng
set_option maxHeartbeats 4000000
set_option linter.unusedVariables false
set_option linter.unusedSimpArgs false
attribute [local irreducible] prP gP gE gF AI ixW ldc ldg ldl stc stg scW mkW apW BG cl2 BZ EZ DS
variable {w0:World}
structure Gr where
 nodes:List Nd
 B9:List Wk
 sites:List ByteArray
def vL (o:AX):Nd:=⟨o.live,o.gen,o.site,o.holds,o.roots,o.field⟩
def vH (h:Hp):Gr:=⟨h.BB.map vL,h.B9,h.sites⟩
theorem vC {l:List AX} {P:AX→Prop} (h: ∀o∈l,P o) {i:Nat} (hi:i<l.length):P (ob l i):=by rw [←DY hi];exact h _ (List.getElem_mem hi)
def sC (g:Gr):Int:=szL dP g.nodes+szL T8 g.B9+g.sites.length
structure TY (g:Gr):Prop where
 nl:(g.nodes.length:Int)≤1048576
 nf: ∀o∈g.nodes,(o.field.length:Int)≤1048576
 wl:(g.B9.length:Int)≤1048576
 sl:(g.sites.length:Int)≤1048576
theorem TY.of {h:Hp} (hf:Fits h):TY (vH h):=by
 refine ⟨?_, ?_,hf.wl,hf.sl⟩
 ·simp only [vH,List.length_map];exact hf.ol
 ·intro o ho
  obtain ⟨x,hx,rfl⟩:=List.mem_map.1 ho
  exact hf.of x hx
theorem TY.nodes {g:Gr} (hf:TY g):0≤szL dP g.nodes∧szL dP g.nodes≤2^41:=by
 refine ⟨R6 lO _, ?_⟩
 have h1:=VZ (sz:=dP) (b:=1048581) (l:=g.nodes) fun o ho=>by have:=hf.nf o ho;unfold dP;omega
 have h2:=hf.nl
 have h3:(g.nodes.length:Int)*1048581≤1048576*1048581:=Int.mul_le_mul_of_nonneg_right h2 (by omega)
 omega
theorem TY.B9 {g:Gr} (hf:TY g):0≤szL T8 g.B9∧szL T8 g.B9≤2^41:=by
 refine ⟨R6 bG _, ?_⟩
 have h1:=VZ (sz:=T8) (b:=2) (l:=g.B9) fun o ho=>by unfold T8;omega
 have h2:=hf.wl
 omega
theorem TY.sz {g:Gr} (hf:TY g):0≤sC g∧sC g≤2^43:=by
 have h1:=hf.nodes;have h2:=hf.B9;have h4:=hf.sl
 unfold sC;omega
end Go.Proofs.Ytnhicpkhkaihoaa.P
namespace Go.Proofs.Ytnhicpkhkaihoaa.P
open Go Go.Proofs.Ytnhicpkhkaihoaa Go.Proofs.Ytnhicpkhkaihoaa.Eng
set_option maxHeartbeats 4000000
set_option linter.unusedVariables false
set_option linter.unusedSimpArgs false
attribute [local irreducible] prP gP gE gF AI ixW ldc ldg ldl stc stg scW mkW apW BG cl2 BZ EZ DS
variable {w0:World}
def NW (id:Int) (o:AX):Nat:=if o.live=true then o.field.count id else 0
def CB (l:List AX) (id:Int):Nat:=(l.map (NW id)).sum
def inE (l:List AX) (s:Int):Int:=if (0≤s∧s≤l.length-1)∧(ob l s.toNat).live=true then CB l (CU s (ob l s.toNat).gen) else 0
theorem eG {l:List AX} {i:Nat} {id:Int} (hi:i<l.length):CB (l.take (i+1)) id=CB (l.take i) id+NW id (ob l i):=by
 rw [CB,List.take_succ_eq_append_getElem hi,List.map_append,List.sum_append,DY hi];simp [CB]
theorem cW {l:List Int} {j:Nat} {id:Int} (hj:j<l.length):(l.take (j+1)).count id=(l.take j).count id+if gI l j=id then 1 else 0:=by
 rw [List.take_succ_eq_append_getElem hj,List.count_append,GQ hj,List.count_singleton]
 simp
theorem oN (id:Int) (o:AX):NW id o≤o.field.length:=by
 unfold NW;split
 ·exact List.count_le_length
 ·exact Nat.zero_le _
theorem OM {l:List AX} {id:Int} {b:Nat} (h: ∀o∈l,o.field.length≤b):CB l id≤l.length*b:=by
 induction l with
 | nil=>simp [CB]
 | cons o l ih=>
   have h1:=ih fun x hx=>h x (by simp [hx])
   have h2:=oN id o
   have h3:=h o (by simp)
   simp only [CB,List.map_cons,List.sum_cons,List.length_cons,Nat.add_mul,Nat.one_mul] at h1 ⊢
   omega
theorem mO {l:List AX} (hf: ∀o∈l,(o.field.length:Int)≤1048576) (i:Nat):((ob l i).field.length:Int)≤1048576:=by
 by_cases hi:i<l.length
 ·rw [←DY hi];exact hf _ (List.getElem_mem hi)
 ·unfold ob;rw [List.getD_eq_getElem?_getD,List.getElem?_eq_none (by omega)];simp
theorem PC {a:List AX} {b c d:List T} {s:Int} {K:J2} (hs:F64 s) (hl:(a.length:Int)≤1048576) (hf: ∀o∈a,(o.field.length:Int)≤1048576) (h:K [I (inE a s)] []):cl2 ⟨Try.prog,w0⟩ 189 D4.sg [I s] [tR tO a,b,c,d] K:=by
 obtain ⟨s1,s2⟩:=hs
 refine D4.cl2 ?_
 unfold D4.txt
 simp only [AJ,AQ,AL,AR,AO,AE,AG,AU,AN,AS,AV,AP,AM,AT,BN,BS,BV,BT,BW,BU,BO,A9,A6,A4,A7,A8,A5]
 repeat' (first | refine DO ?_ | refine IV ?_ | refine BP ?_ | refine SG (by first | with_reducible assumption | omega) ?_ | refine I5 (by first | with_reducible assumption | omega) ?_ | refine EY (by first | with_reducible assumption | omega) rfl ?_ | refine FV (by first | with_reducible assumption | omega) rfl ?_ | refine CQ ?_ | refine HH ?_ | refine DW ⟨by omega,by omega⟩ ?_ | refine TH (by omega) (by omega) ?_ | refine NY (by omega) (by decide) rfl ?_ | refine LY (by omega) rfl ?_ | refine L9 (fun _=> ?_) (fun _=> ?_) | refine IF (fun _=> ?_) (fun _=> ?_) | refine B6 ?_ | simp only [AJ,AQ,AL,AR,AO,AE,AG,AU,AN,AS,AV,AP,AM,AT,BN,BS,BV,BT,BW,BU,BO,A9,A6,A4,A7,A8,A5])
 ·rw [inE,if_neg (by simp_all)] at h;exact h
 ·rename_i hin hlv
  have hin:0≤s∧s≤(a.length:Int)-1:=Decidable.not_not.1 hin
  rw [inE,if_pos ⟨hin,by simpa using hlv⟩] at h
  generalize CU s (ob a s.toNat).gen=id at h ⊢
  refine BF (fun i=>[I (CB (a.take i) id),I id,iv i]) (fun _=>[]) a.length (fun _=>True) rfl rfl trivial (fun R i hi _ hR=> ?_)
  have he:=OM (l:=a.take i) (id:=id) (b:=1048576) fun o ho=>by have:=hf o (List.mem_of_mem_take ho);omega
  have hln:(a.take i).length≤a.length:=by simp;omega
  have hmul:(a.take i).length*1048576≤1048576*1048576:=Nat.mul_le_mul_right _ (by omega)
  have hfo:=mO hf i
  simp only [AJ,AQ,AL,AR,AO,AE,AG,AU,AN,AS,AV,AP,AM,AT,BN,BS,BV,BT,BW,BU,BO,A9,A6,A4,A7,A8,A5]
  refine A1 (AH (fun hlt=> ?_) fun hge=> ?_)
  ·have hlt:i<a.length:=by omega
   replace hR:=hR hlt trivial
   rw [eG hlt,NW] at hR
   refine BF (fun j=>[I ((CB (a.take i) id+(if (ob a i).live=true then ((ob a i).field.take j).count id else 0):Nat):Int),I id,iv i,iv j]) (fun _=>[]) (ob a i).field.length (fun _=>True) (by simp only [List.take_zero,List.count_nil,ite_self,Nat.add_zero];rfl) rfl trivial (fun R2 j hj _ hR2=> ?_)
   have hc:((ob a i).field.take j).count id≤j:=Nat.le_trans List.count_le_length (by simp;omega)
   refine AK hlt (eT hlt ?_)
   rw [LG hlt,AE]
   by_cases hv:(ob a i).live=true
   ·simp only [if_pos hv] at hR hR2 ⊢
    refine A1 (BP (BP (BP (LJ (fun hlt2=> ?_) fun hge2=> ?_))))
    ·have hlt2':j<(ob a i).field.length:=by
      have:(j:Int)<((ob a i).field.length:Int):=hlt2
      omega
     replace hR2:=hR2 hlt2' trivial
     rw [cW hlt2'] at hR2
     refine AK hlt (BP (MC hlt2 (LY hlt rfl (EY hlt2 rfl (iL hv (BX (AK hlt (eT hlt ?_))))))))
     rw [LG hlt,AE]
     refine AK hlt2' (QX hlt hlt2' (BI (AH (fun he=> ?_) fun he=> ?_)))
     ·rw [if_pos he] at hR2
      exact CV ⟨by omega,by omega⟩ (BD (by omega) hR2)
     ·rw [if_neg he] at hR2
      exact BD (by omega) hR2
    ·have:j=(ob a i).field.length:=by
      have: ¬(j:Int)<((ob a i).field.length:Int):=hge2
      omega
     subst this
     rw [List.take_length] at hc ⊢
     exact BP (TG hge2 (FV hge2 rfl (CD (BD (by omega) hR))))
   ·have hv:(ob a i).live=false:=by simpa using hv
    simp only [hv,Bool.false_eq_true,if_false] at hR hR2 ⊢
    refine A1 (BP (BP (BP (LJ (fun hlt2=> ?_) fun hge2=> ?_))))
    ·exact AK hlt (BP (MC hlt2 (LY hlt (v:= .bool false) (by rw [←hv];rfl) (EY hlt2 rfl (CD (BD (by omega) hR))))))
    ·exact BP (TG hge2 (FV hge2 rfl (CD (BD (by omega) hR))))
  ·have:i=a.length:=by omega
   subst this
   rw [List.take_length];exact h
 ·rw [inE,if_neg (by rintro ⟨h1,h2⟩;simp_all)] at h;exact h
theorem jX {l:List Int} {i:Nat} {x:Int} (hi:i<l.length) (h:x∉l.take i) (hn:gI l i≠x):x∉l.take (i+1):=by
 rw [List.take_succ_eq_append_getElem hi,GQ hi]
 simp only [List.mem_append,List.mem_singleton,not_or]
 exact ⟨h,fun he=>hn he.symm⟩
theorem F6 {l:List Int} {i:Nat} (h:i<l.length):gI l i∈l:=by rw [←GQ h];exact List.getElem_mem h
theorem NT {l:List Int} {x:Int} {K:J2} (hl:(l.length:Int)<2^62) (h:K [.bool (decide (x∈l))] []):cl2 ⟨Try.prog,w0⟩ 190 EW.sg [I x] [tI l] K:=by
 refine EW.cl2 ?_
 unfold EW.txt
 simp only [AJ,AQ,AL,AR,AO,AE,AG,AU,AN,AS,AV,AP,AM,AT,BN,BS,BV,BT,BW,BU,BO,A9,A6,A4,A7,A8,A5]
 refine BF (fun i=>[I x,iv i]) (fun _=>[]) l.length (fun i=>x∉l.take i) rfl rfl (by simp) (fun R i hi hP hR=> ?_)
 refine A1 (AH (fun hlt=> ?_) fun hge=> ?_)
 ·have hlt:i<l.length:=by omega
  refine AK hlt (ldI hlt (BI (AH (fun he=> ?_) fun he=> ?_)))
  ·rw [decide_eq_true (he ▸ F6 hlt)] at h;exact h
  ·exact BD (by omega) (hR hlt (jX hlt hP he))
 ·have:i=l.length:=by omega
  subst this
  rw [List.take_length] at hP
  rw [decide_eq_false hP] at h;exact h
attribute [irreducible] inE CB
end Go.Proofs.Ytnhicpkhkaihoaa.P
namespace Go.Proofs.Ytnhicpkhkaihoaa.P
open Go Go.Proofs.Ytnhicpkhkaihoaa Go.Proofs.Ytnhicpkhkaihoaa.Eng
set_option linter.unusedVariables false
theorem F7 {b:Bool} {q:Prop} (h:q):gE (.bool b) q:=⟨rfl,h⟩
theorem KL {a b:Bool} {m:(Value→Prop)→Prop} {K:Value→Prop} (hm:a=true→ ∀K:Value→Prop,K (.bool b)→m K) (h:K (.bool (a&&b))):gP (.bool a) true m fun t=>prP (pk (.bool a) t (.bool false)) K:=by
 cases a
 ·exact .inr ⟨.inl rfl,BC rfl h⟩
 ·exact .inl ⟨rfl,hm rfl _ (BC rfl (by simpa using h))⟩
theorem gZ {a b:Bool} {x:Value} {m1:(Value→Prop)→Prop} {m2:Value→(Value→Prop)→Prop} {K:Value→Prop} (h1:a=true→ ∀K:Value→Prop,K x→m1 K) (h2:a=true→ ∀K:Value→Prop,K (.bool b)→m2 x K) (h:K (.bool (a&&b))):
  gP (.bool a) true m1 fun x=>gP (.bool a) true (m2 x) fun t=>prP (pk (.bool a) t (.bool false)) K:=by
 cases a
 ·exact .inr ⟨.inl rfl, .inr ⟨.inl rfl,BC rfl h⟩⟩
 ·exact .inl ⟨rfl,h1 rfl _ (.inl ⟨rfl,h2 rfl _ (BC rfl (by simpa using h))⟩)⟩
theorem vG {a b:Bool} {m:(Value→Prop)→Prop} {K:Value→Prop} (hm:a=false→ ∀K:Value→Prop,K (.bool b)→m K) (h:K (.bool (a||b))):gP (.bool a) false m fun t=>prP (pk (.bool a) (.bool true) t) K:=by
 cases a
 ·exact .inl ⟨rfl,hm rfl _ (BC rfl (by simpa using h))⟩
 ·exact .inr ⟨.inl rfl,BC rfl h⟩
theorem US {a b:Bool} {m:(Value→Prop)→Prop} {K:Value→Prop} (hm:a=false→ ∀K:Value→Prop,K (.bool b)→m K) (h:K (.bool (a|| !b))):gP (.bool a) false m fun t=>gP (.bool a) false (prP (un .not t)) fun t=>prP (pk (.bool a) (.bool true) t) K:=by
 cases a
 ·exact .inl ⟨rfl,hm rfl _ (.inl ⟨rfl,B6 (BC rfl (by simpa using h))⟩)⟩
 ·exact .inr ⟨.inl rfl, .inr ⟨.inl rfl,BC rfl h⟩⟩
def inB (n lo hi:Int):Bool:=decide (n≥lo)&&decide (n≤hi)
theorem aT {C:Ctx} {n lo hi:Int} {K:J2} (h:K [.bool (inB n lo hi)] []):BE.txt C (I n) (I lo) (I hi) K:=
 JI (F7 (F7 (KL (fun _ K hk=>G7 hk) h)))
theorem kD {C:Ctx} {n lo hi:Int} {K:J2} (h:K [.bool (inB n lo hi)] []):G9.txt C (I n) (I lo) (I hi) K:=
 JI (F7 (F7 (KL (fun _ K hk=>G7 hk) h)))
theorem FR {w0:World} {n lo hi:Int} {K:J2} (h:K [.bool (inB n lo hi)] []):cl2 ⟨Try.prog,w0⟩ 154 BE.sg [I n,I lo,I hi] [] K:=BE.cl2 (aT h)
theorem PI {w0:World} {n lo hi:Int} {K:J2} (h:K [.bool (inB n lo hi)] []):cl2 ⟨Try.prog,w0⟩ 157 G9.sg [I n,I lo,I hi] [] K:=G9.cl2 (kD h)
def I2 (n:Int):Bool:=inB n (-1000000000) 1000000000
theorem HE {w0:World} {n:Int} {K:J2} (h:K [.bool (I2 n)] []):cl2 ⟨Try.prog,w0⟩ 126 DA.sg [I n] [] K:=DA.cl2 (PI h)
def UR (a b c d:Int) (s:ByteArray):Bool:=(((I2 a&&I2 b)&&I2 c)&&I2 d)&&decide ((s.size:Int)≤8)
theorem S7 {w0:World} {a b c d:Int} {s:ByteArray} {K:J2} (h:K [.bool (UR a b c d s)] []):cl2 ⟨Try.prog,w0⟩ 118 EN.sg [I a,I b,I c,I d, .string s] [] K:=
 EN.cl2 (FR (F7 (F7 (KL (fun _ K hk=>FR hk) (F7 (F7 (KL (fun _ K hk=>FR hk) (F7 (F7 (KL (fun _ K hk=>FR hk) (F7 (F7 (gZ (fun _ K hk=>G8 hk) (fun _ K hk=>G7 hk) h)))))))))))))
theorem M9 {w0:World} {a b c d:Int} {s:ByteArray} {K:J2} (h:K [.bool (UR a b c d s)] []):cl2 ⟨Try.prog,w0⟩ 56 DE.sg [I a,I b,I c,I d, .string s] [] K:=
 DE.cl2 (HE (F7 (F7 (KL (fun _ K hk=>HE hk) (F7 (F7 (KL (fun _ K hk=>HE hk) (F7 (F7 (KL (fun _ K hk=>HE hk) (F7 (F7 (gZ (fun _ K hk=>G8 hk) (fun _ K hk=>G7 hk) h)))))))))))))
def R1 (c v:Int) (l:List Int):Bool:=(inB c 0 6&&I2 v&&decide (l.length≤8))&&l.all I2
theorem pI {a b:Nat} {K:Value→Prop} (h:K (.bool (decide (a>b)))):prP (bnI .gtr (iv a) (iv b)) K:=GR (a:=Int.ofNat a) (b:=Int.ofNat b) (by
 have:decide (Int.ofNat a>Int.ofNat b)=decide (a>b):=by simp
 rw [this];exact h)
theorem YV {a b:Nat} {K:Value→Prop} (h:K (.bool (decide (a≤b)))):prP (bnI .leq (iv a) (iv b)) K:=G7 (a:=Int.ofNat a) (b:=Int.ofNat b) (by
 have:decide (Int.ofNat a≤Int.ofNat b)=decide (a≤b):=by simp
 rw [this];exact h)
theorem cE {l:List Int} {i:Nat} (hi:i<l.length) (p:Int→Bool):(l.take (i+1)).all p=((l.take i).all p&&p l[i]):=by
 rw [List.take_succ_eq_append_getElem hi];simp only [List.all_append,List.all_cons,List.all_nil,Bool.and_true]
theorem QK {w0:World} {c v:Int} {l:List Int} {K:J2} (hl:(l.length:Int)<2^62) (h:K [.bool (R1 c v l)] []):cl2 ⟨Try.prog,w0⟩ 119 C6.sg [I c,I v] [tI l] K:=by
 refine C6.cl2 ?_
 unfold C6.txt
 simp only [AE]
 refine FR (B6 (F7 (F7 (US (fun _ K hk=>FR hk) (F7 (F7 (F7 (vG (fun _ K hk=>pI (b:=8) hk) (IF (fun hb=> ?_) fun hb=> ?_)))))))))
 ·have:R1 c v l=false:=by
   unfold R1 I2
   revert hb
   cases inB c 0 6 <;> cases inB v (-1000000000) 1000000000 <;> simp
   intro h1 h2;omega
  rw [this] at h;exact h
 ·have hh:(inB c 0 6&&I2 v&&decide (l.length≤8))=true:=by
   unfold I2
   revert hb
   cases inB c 0 6 <;> cases inB v (-1000000000) 1000000000 <;> simp
  refine BF (fun i=>[iv i,I c,I v]) (fun _=>[]) l.length (fun i=>(l.take i).all I2=true) rfl rfl rfl (fun R i hi hP hR=> ?_)
  refine KR (AH (fun hlt=> ?_) fun hge=> ?_)
  ·refine AK hlt (Q1 hlt (FR (B6 (IF (fun hb=> ?_) fun hb=> ?_))))
   ·have:l.all I2=false:=by
     rw [List.all_eq_false];exact ⟨l[i],List.getElem_mem hlt,by unfold I2;simpa using hb⟩
    rw [R1,hh,this] at h;exact h
   ·exact BD (by omega) (hR hlt (by rw [cE hlt,hP];unfold I2;simpa using hb))
  ·have:i=l.length:=by omega
   subst this
   rw [List.take_length] at hP
   rw [R1,hh,hP] at h;exact h
theorem R0 {w0:World} {c v:Int} {l:List Int} {K:J2} (hl:(l.length:Int)<2^62) (h:K [.bool (R1 c v l)] []):cl2 ⟨Try.prog,w0⟩ 112 DJ.sg [I c,I v] [tI l] K:=by
 refine DJ.cl2 ?_
 unfold DJ.txt
 simp only [AE]
 refine BF (fun i=>[iv l.length,iv i,I c,I v]) (fun _=>[]) l.length (fun i=>(l.take i).all I2=true) rfl rfl rfl (fun R i hi hP hR=> ?_)
 refine KR (AH (fun hlt=> ?_) fun hge=> ?_)
 ·refine AK hlt (Q1 hlt (HE (B6 (IF (fun hb=> ?_) fun hb=> ?_))))
  ·have:l.all I2=false:=by
    rw [List.all_eq_false];exact ⟨l[i],List.getElem_mem hlt,by simpa using hb⟩
   rw [R1,this,Bool.and_false] at h;exact h
  ·exact BD (by omega) (hR hlt (by rw [cE hlt,hP];simpa using hb))
 ·have:i=l.length:=by omega
  subst this
  rw [List.take_length] at hP
  refine PI (F7 (F7 (KL (fun _ K hk=>HE hk) (F7 (F7 (F7 (KL (fun _ K hk=>YV (b:=8) hk) ?_)))))))
  rw [R1,hP,Bool.and_true] at h;exact h
end Go.Proofs.Ytnhicpkhkaihoaa.P
namespace Go.Proofs.Ytnhicpkhkaihoaa.P
open Go Go.Proofs.Ytnhicpkhkaihoaa Go.Proofs.Ytnhicpkhkaihoaa.Eng
set_option linter.unusedVariables false
def tB (l:List Nat):List T:=l.map fun (b:Nat)=> .c (.int .u8 (b:Int))
def HJ (l:List Nat):ByteArray:=l.foldl (fun b n=>b.push (UInt8.ofNat n)) ByteArray.empty
theorem dH (l:List Nat):b2T (tB l)=some (.string (HJ l)):=by
 have h1:(tB l).all N7=true:=by simp [tB,N7]
 have h2: ∀(l:List Nat) (b:ByteArray),(tB l).foldl bH b=l.foldl (fun b n=>b.push (UInt8.ofNat n)) b:=by
  intro l
  induction l with
  | nil=>intro b;rfl
  | cons a l ih=>intro b;exact ih _
 simp only [b2T,h1,if_true,h2];rfl
theorem EP (l:List Nat):(HJ l).size=l.length:=by
 have: ∀(l:List Nat) (b:ByteArray),(l.foldl (fun b n=>b.push (UInt8.ofNat n)) b).size=b.size+l.length:=by
  intro l
  induction l with
  | nil=>intro b;rfl
  | cons a l ih=>intro b;rw [List.foldl_cons,ih,ByteArray.size_push,List.length_cons];omega
 rw [HJ,this];simp
def vd:Nat→Nat→List Nat
 | 0,n=>[n]
 | k+1,n=>if n≥128 then (128+n % 128)::vd k (n/128) else [n]
theorem dK: ∀k n,(vd k n).length≤k+1
 | 0,n=>by simp [vd]
 | k+1,n=>by
   unfold vd;split
   ·have:=dK k (n/128);simp only [List.length_cons];omega
   ·simp
def V (n:Int):ByteArray:=if inB n 0 562949953421311 then HJ (vd 6 n.toNat) else ⟨#[]⟩
theorem IE (n:Int):(V n).size≤7:=by
 unfold V;split
 ·rw [EP];exact dK 6 _
 ·exact Nat.zero_le _
theorem eL (l:List Nat):cnt 1 (tB l)=l.length:=by simp [cnt,tB]
theorem RZ {c:List T} {n m b:Nat} {q:Prop} (hf:flat c=true) (hn:(n+m)*b≤2^47) (h:q):apW c true n m b q:=⟨fun _=>hf,hn,h⟩
theorem J1 {w0:World} {n:Int} {K:J2} (hn:F64 n) (h:K [.string (V n)] []):cl2 ⟨Try.prog,w0⟩ 123 EM.sg [I n] [] K:=by
 refine EM.cl2 ?_
 unfold EM.txt
 refine FR (B6 (IF (fun hb=> ?_) fun hb=> ?_))
 ·have hb:inB n 0 562949953421311=false:=by simpa using hb
  rw [V,hb] at h;exact h
 ·have hb:inB n 0 562949953421311=true:=by simpa using hb
  rw [V,if_pos hb] at h
  unfold inB at hb
  simp only [Bool.and_eq_true,decide_eq_true_eq] at hb
  obtain ⟨m,rfl⟩: ∃m:Nat,n=m:=⟨n.toNat,by omega⟩
  rw [Int.toNat_natCast] at h
  refine FA (α:=Nat×Nat×List Nat) (fun p=>[iv p.2.1]) (fun p=>[tB p.2.2]) (fun p=>p.1) (fun p=>p.2.1<128^(p.1+1)∧p.2.1<2^62∧p.2.2.length+p.1≤6∧p.2.2++vd p.1 p.2.1=vd 6 m) (6,m,[]) rfl rfl ⟨by simp only;omega,by simp only;omega,by simp,rfl⟩ (fun R p hp hR=> ?_)
  obtain ⟨k,m',l⟩:=p
  obtain ⟨p1,p2,p3,p4⟩:=hp
  simp only at p1 p2 p3 p4
  have hcn:cnt 1 (nxc [tB l] 0)=l.length:=eL l
  simp only [hcn]
  refine JI (a:=Int.ofNat m') (b:=128) (AH (fun hge=> ?_) fun hlt=> ?_)
  ·have hge:128≤m':=by simp at hge;omega
   cases k with
   | zero=>simp at p1;omega
   | succ k=>
     have h1:(Int.ofNat m').tmod 128=((m' % 128:Nat):Int):=by simp [Int.tmod_eq_emod_of_nonneg]
     refine BC (v:= .int .i64 ((Int.ofNat m').tmod 128)) rfl ?_
     rw [h1]
     refine CV (a:=128) ⟨by omega,by omega⟩ ?_
     refine BC (v:= .int .u8 (IntKind.u8.wrap (128+((m' % 128:Nat):Int)))) rfl ?_
     have h2:IntKind.u8.wrap (128+((m' % 128:Nat):Int))=((128+m' % 128:Nat):Int):=by rw [IntKind.wrap_u8];omega
     rw [h2]
     refine RZ rfl (by simp [cnt];omega) ?_
     have h3:(Int.ofNat m').tdiv 128=((m'/128:Nat):Int):=rfl
     refine BC (v:= .int .i64 (IntKind.i64.wrap ((Int.ofNat m').tdiv 128))) rfl ?_
     rw [h3,JE ⟨by omega,by omega⟩]
     have:=hR (k,m'/128,l++[128+m' % 128]) ⟨by simp only;rw [Nat.pow_succ] at p1;omega,by simp only;omega,by simp;omega,by simp only;rw [←p4,vd,if_pos hge];simp⟩ (Nat.lt_succ_self k)
     have e9:tB (l++[128+m' % 128])=tB l++[T.c (.int .u8 ((128+m' % 128:Nat):Int))]:=by simp [tB]
     show R [iv (m'/128)] [tB l++[T.c (.int .u8 ((128+m' % 128:Nat):Int))]]
     rw [←e9];exact this
  ·have hlt:m'<128:=by simp at hlt;omega
   refine BC (v:= .int .u8 (IntKind.u8.wrap (Int.ofNat m'))) rfl ?_
   have h2:IntKind.u8.wrap (Int.ofNat m')=(m':Int):=by rw [IntKind.wrap_u8];simp only [Int.ofNat_eq_natCast];omega
   rw [h2]
   refine RZ rfl (by simp [cnt];omega) ?_
   have h4:vd k m'=[m']:=by cases k with | zero=>rfl | succ k=>rw [vd,if_neg (by omega)]
   have h5:nxc [tB l] 0++[T.c (.int .u8 (m':Int))]=tB (vd 6 m):=by rw [←p4,h4];simp [tB,nxc]
   rw [h5,dH]
   exact BC rfl h
theorem JX {w0:World} {n:Int} {K:J2} (hn:F64 n) (h:K [.string (V n)] []):cl2 ⟨Try.prog,w0⟩ 116 E9.sg [I n] [] K:=by
 refine E9.cl2 ?_
 unfold E9.txt
 refine PI (B6 (IF (fun hb=> ?_) fun hb=> ?_))
 ·have hb:inB n 0 562949953421311=false:=by simpa using hb
  rw [V,hb] at h;exact h
 ·have hb:inB n 0 562949953421311=true:=by simpa using hb
  rw [V,if_pos hb] at h
  unfold inB at hb
  simp only [Bool.and_eq_true,decide_eq_true_eq] at hb
  obtain ⟨m,rfl⟩: ∃m:Nat,n=m:=⟨n.toNat,by omega⟩
  rw [Int.toNat_natCast] at h
  refine FA (α:=Nat×Nat×List Nat) (fun p=>[iv p.2.1]) (fun p=>[tB p.2.2]) (fun p=>p.1) (fun p=>p.2.1<128^(p.1+1)∧p.2.1<2^62∧p.2.2.length+p.1≤6∧p.2.2++vd p.1 p.2.1=vd 6 m) (6,m,[]) rfl rfl ⟨by simp only;omega,by simp only;omega,by simp,rfl⟩ (fun R p hp hR=> ?_)
  obtain ⟨k,m',l⟩:=p
  obtain ⟨p1,p2,p3,p4⟩:=hp
  simp only at p1 p2 p3 p4
  have hcn:cnt 1 (nxc [tB l] 0)=l.length:=eL l
  simp only [hcn]
  refine GR (a:=Int.ofNat m') (b:=127) (AH (fun hge=> ?_) fun hlt=> ?_)
  ·have hge:128≤m':=by simp at hge;omega
   cases k with
   | zero=>simp at p1;omega
   | succ k=>
     have h1:(Int.ofNat m').tmod 128=((m' % 128:Nat):Int):=by simp [Int.tmod_eq_emod_of_nonneg]
     refine BC (v:= .int .i64 ((Int.ofNat m').tmod 128)) rfl ?_
     rw [h1]
     refine CV (b:=128) ⟨by omega,by omega⟩ ?_
     refine BC (v:= .int .u8 (IntKind.u8.wrap (((m' % 128:Nat):Int)+128))) rfl ?_
     have h2:IntKind.u8.wrap (((m' % 128:Nat):Int)+128)=((128+m' % 128:Nat):Int):=by rw [IntKind.wrap_u8];omega
     rw [h2]
     refine RZ rfl (by simp [cnt];omega) ?_
     have h3:(Int.ofNat m').tdiv 128=((m'/128:Nat):Int):=rfl
     refine BC (v:= .int .i64 (IntKind.i64.wrap ((Int.ofNat m').tdiv 128))) rfl ?_
     rw [h3,JE ⟨by omega,by omega⟩]
     have:=hR (k,m'/128,l++[128+m' % 128]) ⟨by simp only;rw [Nat.pow_succ] at p1;omega,by simp only;omega,by simp;omega,by simp only;rw [←p4,vd,if_pos hge];simp⟩ (Nat.lt_succ_self k)
     have e9:tB (l++[128+m' % 128])=tB l++[T.c (.int .u8 ((128+m' % 128:Nat):Int))]:=by simp [tB]
     show R [iv (m'/128)] [tB l++[T.c (.int .u8 ((128+m' % 128:Nat):Int))]]
     rw [←e9];exact this
  ·have hlt:m'<128:=by simp at hlt;omega
   refine BC (v:= .int .u8 (IntKind.u8.wrap (Int.ofNat m'))) rfl ?_
   have h2:IntKind.u8.wrap (Int.ofNat m')=(m':Int):=by rw [IntKind.wrap_u8];simp only [Int.ofNat_eq_natCast];omega
   rw [h2]
   refine RZ rfl (by simp [cnt];omega) ?_
   have h4:vd k m'=[m']:=by cases k with | zero=>rfl | succ k=>rw [vd,if_neg (by omega)]
   have h5:nxc [tB l] 0++[T.c (.int .u8 (m':Int))]=tB (vd 6 m):=by rw [←p4,h4];simp [tB,nxc]
   rw [h5,dH]
   exact BC rfl h
attribute [irreducible] V
end Go.Proofs.Ytnhicpkhkaihoaa.P
namespace Go.Proofs.Ytnhicpkhkaihoaa.P
open Go Go.Proofs.Ytnhicpkhkaihoaa Go.Proofs.Ytnhicpkhkaihoaa.Eng
set_option linter.unusedVariables false
def zg (n:Int):Int:=if inB n (-100000000000000) 100000000000000 then (if n<0 then -2*n-1 else 2*n) else -1
theorem KO {n lo hi:Int}:inB n lo hi=true↔lo≤n∧n≤hi:=by simp [inB]
theorem fW (n:Int):F64 (zg n):=by
 unfold zg;split
 ·rename_i h;rw [KO] at h
  split <;> constructor <;> omega
 ·constructor <;> omega
theorem e7 {w0:World} {n:Int} {K:J2} (h:K [I (zg n)] []):cl2 ⟨Try.prog,w0⟩ 179 KB.sg [I n] [] K:=by
 refine KB.cl2 (FR (B6 (IF (fun hb=> ?_) fun hb=> ?_)))
 ·have hb:inB n (-100000000000000) 100000000000000=false:=by simpa using hb
  rw [zg,hb] at h;exact h
 ·have hb:inB n (-100000000000000) 100000000000000=true:=by simpa using hb
  rw [zg,if_pos hb] at h
  rw [KO] at hb
  refine A1 (AH (fun hl=> ?_) fun hl=> ?_)
  ·rw [if_pos hl] at h
   exact KQ (a:= -2) ⟨by omega,by omega⟩ (DW (b:=1) ⟨by omega,by omega⟩ h)
  ·rw [if_neg hl] at h
   exact KQ (a:=2) ⟨by omega,by omega⟩ h
theorem cU {w0:World} {n:Int} {K:J2} (h:K [I (zg n)] []):cl2 ⟨Try.prog,w0⟩ 177 KF.sg [I n] [] K:=by
 refine KF.cl2 (PI (B6 (IF (fun hb=> ?_) fun hb=> ?_)))
 ·have hb:inB n (-100000000000000) 100000000000000=false:=by simpa using hb
  rw [zg,hb] at h;exact h
 ·have hb:inB n (-100000000000000) 100000000000000=true:=by simpa using hb
  rw [zg,if_pos hb] at h
  rw [KO] at hb
  refine A1 (AH (fun hl=> ?_) fun hl=> ?_)
  ·rw [if_pos hl] at h
   exact KQ (a:= -2) ⟨by omega,by omega⟩ (DW (b:=1) ⟨by omega,by omega⟩ h)
  ·rw [if_neg hl] at h
   exact KQ (a:=2) ⟨by omega,by omega⟩ h
def SI (n:Int):ByteArray:=V (zg n)
theorem G4 {w0:World} {n:Int} {K:J2} (h:K [.string (SI n)] []):cl2 ⟨Try.prog,w0⟩ 122 C3.sg [I n] [] K:=by
 refine C3.cl2 (e7 (A1 (AH (fun hl=> ?_) fun hl=>J1 (fW n) h)))
 have:SI n=⟨#[]⟩:=by
  have hb:inB (zg n) 0 562949953421311=false:=by
   cases hx:inB (zg n) 0 562949953421311
   ·rfl
   ·rw [KO] at hx;omega
  rw [SI,V,hb];rfl
 rw [this] at h;exact h
theorem GY {w0:World} {n:Int} {K:J2} (h:K [.string (SI n)] []):cl2 ⟨Try.prog,w0⟩ 114 C5.sg [I n] [] K:=
 C5.cl2 (cU (JX (fW n) h))
def ST (s:ByteArray):ByteArray:=if (s.size:Int)>8 then ⟨#[]⟩ else V s.size++s
theorem UA {w0:World} {s:ByteArray} {K:J2} (h:K [.string (ST s)] []):cl2 ⟨Try.prog,w0⟩ 178 FT.sg [.string s] [] K:=by
 refine FT.cl2 (G8 (GR (AH (fun hl=> ?_) fun hl=> ?_)))
 ·rw [ST,if_pos hl] at h;exact h
 ·rw [ST,if_neg hl] at h
  have:=IE s.size
  exact G8 (J1 ⟨by omega,by omega⟩ (CI (by omega) h))
theorem T3 {w0:World} {s:ByteArray} {K:J2} (h:K [.string (ST s)] []):cl2 ⟨Try.prog,w0⟩ 117 FO.sg [.string s] [] K:=by
 refine FO.cl2 (G8 (GR (AH (fun hl=> ?_) fun hl=> ?_)))
 ·rw [ST,if_pos hl] at h;exact h
 ·rw [ST,if_neg hl] at h
  have:=IE s.size
  exact G8 (JX ⟨by omega,by omega⟩ (CI (by omega) h))
theorem ZJ (s:ByteArray):(ST s).size≤15:=by
 unfold ST;split
 ·exact Nat.zero_le _
 ·have:=IE s.size
  rw [ByteArray.size_append];omega
theorem V8 {a b:ByteArray} {p q:Prop} (h1:a=b→p) (h2:a≠b→q):AI (.bool (a.toList==b.toList)) p q:=
 IF (fun h=>h1 (c8 (by simpa using h))) (fun h=>h2 (by rintro rfl;simp at h))
instance :LawfulBEq ByteArray where
 eq_of_beq {a b} h:=by
  cases a;cases b
  have h:_==_:=h
  first | exact congrArg _ (eq_of_beq h) | (simp [BEq.beq,instBEqByteArray.beq] at h;simpa using h) | (simp_all)
 rfl {a}:=by
  cases a
  first | exact beq_self_eq_true (α:=Array UInt8) _ | (show ByteArray.beq _ _=true;unfold ByteArray.beq;simp) | (simp [BEq.beq,ByteArray.beq])
def at_ (l:List ByteArray) (s:ByteArray):Int:=if s∈l then (l.idxOf s:Int) else -1
theorem QP {l:List ByteArray} {s:ByteArray} {i:Nat} (hi:i<l.length) (h1:s∉l.take i) (h2:l[i]≠s):s∉l.take (i+1):=by
 rw [List.take_succ_eq_append_getElem hi]
 simp only [List.mem_append,List.mem_singleton,not_or]
 exact ⟨h1,fun h=>h2 h.symm⟩
theorem iK {l:List ByteArray} {s:ByteArray} {i:Nat} (hi:i<l.length) (h1:s∉l.take i) (h2:l[i]=s):at_ l s=i:=by
 have hm:s∈l:=h2 ▸ List.getElem_mem hi
 rw [at_,if_pos hm]
 have e:l=l.take i++l[i]::l.drop (i+1):=by rw [←List.drop_eq_getElem_cons hi,List.take_append_drop]
 have hx:l.idxOf s=i:=by
  rw [e,List.idxOf_append,if_neg h1,h2,List.idxOf_cons_self]
  simp;omega
 rw [hx]
theorem P9 {w0:World} {s:ByteArray} {l:List ByteArray} {K:J2} (hl:(l.length:Int)<2^62) (h:K [I (at_ l s)] []):cl2 ⟨Try.prog,w0⟩ 115 EJ.sg [.string s] [tS l] K:=by
 refine EJ.cl2 ?_
 unfold EJ.txt
 simp only [AG]
 refine BF (fun i=>[.string s,iv l.length,iv i]) (fun _=>[]) l.length (fun i=>s∉l.take i) rfl rfl (by simp) (fun R i hi hP hR=> ?_)
 refine KR (AH (fun hlt=> ?_) fun hge=> ?_)
 ·refine AK hlt (QO hlt (SK (V8 (fun he=> ?_) fun hne=> ?_)))
  ·rw [iK hlt hP he] at h;exact h
  ·exact BD (by omega) (hR hlt (QP hlt hP hne))
 ·have:i=l.length:=by omega
  subst this
  rw [List.take_length] at hP
  rw [at_,if_neg hP] at h;exact h
theorem VM {w0:World} {s:ByteArray} {l:List ByteArray} {K:J2} (hl:(l.length:Int)<2^62) (h:K [.bool (decide (s∈l))] []):cl2 ⟨Try.prog,w0⟩ 176 GJ.sg [.string s] [tS l] K:=by
 refine GJ.cl2 (P9 hl (JI ?_))
 have:decide (at_ l s≥0)=decide (s∈l):=by
  by_cases hm:s∈l <;> simp [at_,hm]
 rw [this];exact h
theorem PA {w0:World} {n:Value} {l:List ByteArray} {K:J2} (hl:l.length≤2^40) (h:K [n] [tS l]):cl2 ⟨Try.prog,w0⟩ 103 DH.sg [n] [tS l] K:=by
 refine DH.cl2 (FY.cl2 (RZ (Q8 l) (by rw [AG];omega) ?_))
 exact h
end Go.Proofs.Ytnhicpkhkaihoaa.P
