/- A part of the proof. -/
import Derived.Test.YtnhicpkhkaihoaaGreatFaHpI
namespace Go.Proofs.YtnhicpkhkaihoaaGreat.P
open Go Go.Proofs.YtnhicpkhkaihoaaGreat Go.Proofs.YtnhicpkhkaihoaaGreat.Eng
set_option linter.unusedVariables false
set_option maxHeartbeats 4000000
set_option linter.unusedVariables false
set_option linter.unusedSimpArgs false
attribute [local irreducible] prP gP gE gF AU ixW ldc ldg ldl stc stg scW mkW apW BG cl2 BX GP CZ
variable {w0:World}
def P1 (n:Nat) (p:Nat→Bool):Int:=match (List.range n).find? p with
 | some i=>(i:Int)
 | none=> -1
theorem PH {n i:Nat} {p:Nat→Bool} (hi:i<n) (h:p i=true) (hb: ∀k,k<i→p k=false):P1 n p=i:=by
 have:(List.range n).find? p=some i:=List.find?_range_eq_some.2 ⟨h,List.mem_range.2 hi,fun j hj=>by rw [hb j hj];rfl⟩
 rw [P1,this]
theorem TM {n:Nat} {p:Nat→Bool} (hb: ∀k,k<n→p k=false):P1 n p= -1:=by
 have:(List.range n).find? p=none:=List.find?_range_eq_none.2 fun j hj=>by rw [hb j hj];rfl
 rw [P1,this]
theorem VW (n:Nat) (p:Nat→Bool):(P1 n p= -1∧ ∀k,k<n→p k=false)∨ ∃i,i<n∧P1 n p=(i:Int)∧p i=true∧ ∀k,k<i→p k=false:=by
 cases h:(List.range n).find? p with
 | none=>exact .inl ⟨by rw [P1,h],fun k hk=>by have:=List.find?_range_eq_none.1 h k hk;simpa using this⟩
 | some i=>
   obtain ⟨h1,h2,h3⟩:=List.find?_range_eq_some.1 h
   exact .inr ⟨i,List.mem_range.1 h2,by rw [P1,h],h1,fun k hk=>by have:=h3 k hk;simpa using this⟩
def K5 (os:List A7) (i:Nat):Bool:= !(ob os i).live&&decide ((ob os i).gen<999)
def CX (os:List A7):Int:=P1 os.length (K5 os)
def K3 (ws:List Wk):Int:=P1 ws.length fun i=> !(wk ws i).used
theorem YD {os:List A7} {b c d:List T} {K:J2} (hol:os.length=8) (h:K [I (CX os)] []):cl2 ⟨Tryz.prog,w0⟩ 167 GU.sg [] [tR tO os,b,c,d] K:=by
 refine GU.cl2 ?_
 unfold GU.txt
 simp only [AK,AS,AJ,AI,AM,AE,AH,AN,AO,AP,AL,AR,AT,AQ,BB,BE,BI,BH,BK,BJ,BF,AX,A4,AY,A1,AZ,A5]
 refine A9 (fun i=>[iv os.length,iv i]) (fun _=>[]) os.length (fun i=> ∀k,k<i→K5 os k=false) rfl rfl (fun k hk=>by omega) (fun R i hi hP hR=> ?_)
 simp only [AK,AS,AJ,AI,AM,AE,AH,AN,AO,AP,AL,AR,AT,AQ,BB,BE,BI,BH,BK,BJ,BF,AX,A4,AY,A1,AZ,A5]
 refine AV (AG (fun hlt=> ?_) fun hge=> ?_)
 ·have hlt:i<os.length:=by omega
  refine AW hlt (OM hlt ?_)
  simp only [o7,qT]
  have no:K5 os i=false→R [iv os.length,iv (i+1)] []:=fun hn=>hR hlt fun k hk=>(Nat.lt_succ_iff_lt_or_eq.1 hk).elim (hP k) fun he=>he ▸ hn
  have yes:K5 os i=true→K [iv i] []:=fun hy=>by unfold CX at h;rw [PH hlt hy hP] at h;exact h
  cases hv:(ob os i).live with
  | false=>
    repeat' (first | refine BM ?_ | refine QK ?_ | refine IF (by first | with_reducible assumption | omega) ?_ | refine CI (by first | with_reducible assumption | omega) rfl ?_ | refine RF rfl ?_ | refine AV ?_ | refine A6 (by omega) ?_ | refine AG (fun _=> ?_) (fun _=> ?_) | refine BU ?_)
    ·exact yes (by simp [K5,hv];omega)
    ·exact no (by simp [K5,hv];omega)
  | true=>
    repeat' (first | refine BM ?_ | refine NF ?_ | refine IF (by first | with_reducible assumption | omega) ?_ | refine CI (by first | with_reducible assumption | omega) rfl ?_ | refine VA rfl ?_ | refine BT ?_ | refine AV ?_ | refine A6 (by omega) ?_ | refine BU ?_)
    all_goals exact no (by simp [K5,hv])
 ·have:i=os.length:=by omega
  subst this
  unfold CX at h
  rw [TM hP] at h;exact h
theorem YA {os:List A7} {b c d:List T} {K:J2} (hol:os.length=8) (h:K [I (CX os)] []):cl2 ⟨Tryz.prog,w0⟩ 157 GG.sg [] [tR tO os,b,c,d] K:=by
 refine GG.cl2 ?_
 unfold GG.txt
 simp only [AK,AS,AJ,AI,AM,AE,AH,AN,AO,AP,AL,AR,AT,AQ,BB,BE,BI,BH,BK,BJ,BF,AX,A4,AY,A1,AZ,A5]
 refine A9 (fun i=>[iv i]) (fun _=>[]) os.length (fun i=> ∀k,k<i→K5 os k=false) rfl rfl (fun k hk=>by omega) (fun R i hi hP hR=> ?_)
 simp only [AK,AS,AJ,AI,AM,AE,AH,AN,AO,AP,AL,AR,AT,AQ,BB,BE,BI,BH,BK,BJ,BF,AX,A4,AY,A1,AZ,A5]
 refine AV (BM (IG (fun hlt=> ?_) fun hge=> ?_))
 ·have hlt':i<os.length:=by omega
  refine AV (CI hlt rfl (CM (by omega) ?_))
  have no:K5 os i=false→R [iv (i+1)] []:=fun hn=>hR hlt' fun k hk=>(Nat.lt_succ_iff_lt_or_eq.1 hk).elim (hP k) fun he=>he ▸ hn
  have yes:K5 os i=true→K [iv i] []:=fun hy=>by unfold CX at h;rw [PH hlt' hy hP] at h;exact h
  refine AW hlt' ?_
  cases hv:(ob os i).live with
  | false=>
    refine NA (v:= .bool false) hlt' (by simp [tO,hv]) (BU ?_)
    repeat' (first | refine AW hlt' ?_ | refine J8 (v:=I (ob os i).gen) hlt' (by decide) rfl ?_ | refine BM ?_ | refine QK ?_ | refine RF rfl ?_ | refine AV ?_ | refine A6 (by omega) ?_ | refine AG (fun _=> ?_) (fun _=> ?_))
    ·exact yes (by simp [K5,hv];omega)
    ·exact no (by simp [K5,hv];omega)
  | true=>
    refine NA (v:= .bool true) hlt' (by simp [tO,hv]) (BU ?_)
    repeat' (first | refine BM ?_ | refine NF ?_ | refine VA rfl ?_ | refine BT ?_ | refine A6 (by omega) ?_)
    all_goals exact no (by simp [K5,hv])
 ·refine CD hge rfl (BT ?_)
  have:i=os.length:=by omega
  subst this
  unfold CX at h
  rw [TM hP] at h;exact h
theorem X3 {ws:List Wk} {K:J2} (hol:ws.length=8) (h:K [I (K3 ws)] []):cl2 ⟨Tryz.prog,w0⟩ 171 GR.sg [] [tR tW ws] K:=by
 refine GR.cl2 ?_
 unfold GR.txt
 simp only [AK,AS,AJ,AI,AM,AE,AH,AN,AO,AP,AL,AR,AT,AQ,BB,BE,BI,BH,BK,BJ,BF,AX,A4,AY,A1,AZ,A5]
 refine A9 (fun i=>[iv ws.length,iv i]) (fun _=>[]) ws.length (fun i=> ∀k,k<i→(!(wk ws k).used)=false) rfl rfl (fun k hk=>by omega) (fun R i hi hP hR=> ?_)
 simp only [AK,AS,AJ,AI,AM,AE,AH,AN,AO,AP,AL,AR,AT,AQ,BB,BE,BI,BH,BK,BJ,BF,AX,A4,AY,A1,AZ,A5]
 refine AV (AG (fun hlt=> ?_) fun hge=> ?_)
 ·have hlt:i<ws.length:=by omega
  refine AW hlt (ZO hlt ?_)
  simp only [sT]
  cases hv:(wk ws i).used with
  | false=>
    refine BU (BP ?_)
    unfold K3 at h
    rw [PH hlt (by rw [hv];rfl) hP] at h;exact h
  | true=>
    refine BU (BT (A6 (by omega) (hR hlt fun k hk=> ?_)))
    rcases Nat.lt_succ_iff_lt_or_eq.1 hk with h3 | rfl
    ·exact hP k h3
    ·rw [hv];rfl
 ·have:i=ws.length:=by omega
  subst this
  unfold K3 at h
  rw [TM hP] at h;exact h
theorem CG {n:Int} {K:J2} (h:K [I n,I 0] [[]]):cl2 ⟨Tryz.prog,w0⟩ 85 B1.sg [I n] [] K:=B1.cl2 h
def N8 (g s:Int):A7:=⟨true,g,s,1,0,1,RN,false⟩
def HG (os:List A7) (ss:List ByteArray) (s:ByteArray):List A7×List ByteArray×An:=
 if ¬(1≤(s.size:Int)∧(s.size:Int)≤8) then (os,ss,⟨2,0,[]⟩)
 else if CX os<0 then (os,ss,⟨3,0,[]⟩)
 else if at_ ss s<0∧6≤ss.length then (os,ss,⟨6,0,[]⟩)
 else (os.set (CX os).toNat (N8 (w64 ((ob os (CX os).toNat).gen+1)) (if at_ ss s<0 then ss.length else at_ ss s)),(if at_ ss s<0 then ss++[s] else ss),⟨0,C8 (CX os) (w64 ((ob os (CX os).toNat).gen+1)),[]⟩)
theorem SE {os:List A7} (h: ¬CX os<0):(CX os).toNat<os.length∧CX os=((CX os).toNat:Int)∧K5 os (CX os).toNat=true:=by
 rcases VW os.length (K5 os) with ⟨h1,_⟩ | ⟨i,h1,h2,h3,_⟩
 ·unfold CX at h;omega
 ·have e:CX os=i:=h2
  have e2:(CX os).toNat=i:=by omega
  rw [e2];exact ⟨h1,e,h3⟩
theorem iK {os:List A7} {b c:List T} {ss:List ByteArray} {s:ByteArray} {K:J2} (hol:os.length=8) (hsl:ss.length≤6) (h:K [I (HG os ss s).2.2.code,I (HG os ss s).2.2.val] [tI (HG os ss s).2.2.freed,tR tO (HG os ss s).1,tS (HG os ss s).2.1]):cl2 ⟨Tryz.prog,w0⟩ 126 EU.sg [.string s] [tR tO os,b,c,tS ss] K:=by
 refine EU.cl2 ?_
 unfold EU.txt
 refine YD hol (PZ (by omega) (BS ?_))
 simp only [AK,AS,AJ,AI,AM,AE,AH,AN,AO,AP,AL,AR,AT,AQ,BB,BE,BI,BH,BK,BJ,BF,AX,A4,AY,A1,AZ,A5]
 unfold HG at h
 refine CJ (GA (CP (AG (fun hb=> ?_) fun hb=> ?_)))
 ·rw [if_pos hb] at h
  exact CG h
 rw [if_neg hb] at h
 refine AV (AG (fun hf=> ?_) fun hf=> ?_)
 ·rw [if_pos hf] at h
  exact CG h
 rw [if_neg hf] at h
 obtain ⟨f1,f2,f3⟩:=SE hf
 refine AV ?_
 by_cases ha:at_ ss s<0
 ·by_cases h6:6≤ss.length
  ·rw [if_pos ⟨ha,h6⟩] at h
   repeat' (first | exact CG h | refine BM ?_ | refine IF (by first | with_reducible assumption | omega) ?_ | refine CI (by first | with_reducible assumption | omega) rfl ?_ | refine CM (by first | with_reducible assumption | omega) ?_ | refine DV ?_)
   all_goals omega
  ·rw [if_neg (by omega),if_pos ha,if_pos ha] at h
   repeat' (first | refine BM ?_ | refine IF (by first | with_reducible assumption | omega) ?_ | refine CI (by first | with_reducible assumption | omega) rfl ?_ | refine CM (by first | with_reducible assumption | omega) ?_ | refine C3 (by first | with_reducible assumption | omega) ?_ | refine AV ?_ | refine DV ?_ | refine DT ?_ | refine QU (by omega) (by omega) ?_ | refine J8 (by omega) (by decide) rfl ?_ | refine DP (by first | exact PQ _ | exact RG _ | exact fD _ | exact yW _ | rfl) (by omega) ?_)
   exact OD (y:=N8 (w64 ((ob os (CX os).toNat).gen+1)) ss.length) (by omega) rfl (NI (by rw [←TW] at h;exact h))
 ·rw [if_neg (by omega),if_neg ha,if_neg ha] at h
  repeat' (first | refine BM ?_ | refine LP (by first | with_reducible assumption | omega) ?_ | refine CD (by first | with_reducible assumption | omega) rfl ?_ | refine BT ?_ | refine C3 (by first | with_reducible assumption | omega) ?_ | refine AV ?_ | refine DT ?_ | refine QU (by omega) (by omega) ?_ | refine J8 (by omega) (by decide) rfl ?_)
  exact OD (y:=N8 (w64 ((ob os (CX os).toNat).gen+1)) (at_ ss s)) (by omega) rfl (NI h)
theorem yD {l:List ByteArray} {x s:ByteArray} (h:x∉l):at_ (l++[x]) s=if x=s then (l.length:Int) else at_ l s:=by
 unfold at_
 by_cases hs:s∈l
 ·rw [if_pos (List.mem_append_left _ hs),if_pos hs,List.idxOf_append,if_pos hs,if_neg (show ¬x=s from fun he=>h (he ▸ hs))]
 ·by_cases hx:x=s
  ·rw [if_pos (by simp [hx]),if_pos hx,List.idxOf_append,if_neg hs]
   simp [hx]
  ·rw [if_neg (by simp [hs,Ne.symm hx]),if_neg hx,if_neg hs]
theorem bO {os:List A7} {b c:List T} {ss:List ByteArray} {s:ByteArray} {k1 k2 k3 k4:Int} {K:J2} (hol:os.length=8) (hss:NB ss) (h:K [I (HG os ss s).2.2.code,I (HG os ss s).2.2.val] [tR tO (HG os ss s).1,tS (HG os ss s).2.1,tI (HG os ss s).2.2.freed]):cl2 ⟨Tryz.prog,w0⟩ 104 HU.sg [I k1,I k2,I k3,I k4, .string s] [tR tO os,b,c,tS ss] K:=by
 have hsl:=hss.len
 refine HU.cl2 ?_
 unfold HU.txt
 unfold HG at h
 refine CJ (D6 (CP (AG (fun hb=> ?_) fun hb=> ?_)))
 ·rw [if_pos hb] at h
  exact h
 rw [if_neg hb] at h
 refine YA hol (AV (AG (fun hf=> ?_) fun hf=> ?_))
 ·rw [if_pos hf] at h
  exact h
 rw [if_neg hf] at h
 obtain ⟨f1,f2,f3⟩:=SE hf
 refine A9 (fun i=>[I (CX os),I (at_ (ss.take i) s),iv i,I k1,I k2,I k3,I k4, .string s,I 0,I 0]) (fun _=>[tR tO os,tS ss]) ss.length (fun i=>True) rfl rfl trivial (fun R i hi hP hR=> ?_)
 simp only [AK,AS,AJ,AI,AM,AE,AH,AN,AO,AP,AL,AR,AT,AQ,BB,BE,BI,BH,BK,BJ,BF,AX,A4,AY,A1,AZ,A5]
 simp only [BF,Cf,Bn,Dc]
 refine AV (AG (fun hlt=> ?_) fun hge=> ?_)
 ·have hlt:i<ss.length:=by omega
  replace hR:=hR hlt trivial
  have hone:=hss.one i hlt
  rw [List.take_succ_eq_append_getElem hlt,O0 hlt,yD hone] at hR
  refine BS (AW hlt (ldS hlt (IE (AG (fun he=> ?_) fun he=> ?_))))
  ·rw [if_pos he,List.length_take,Nat.min_eq_left hi] at hR
   exact A6 (by omega) hR
  ·rw [if_neg he] at hR
   exact A6 (by omega) hR
 ·have:i=ss.length:=by omega
  subst this
  rw [List.take_length]
  refine AV ?_
  by_cases ha:at_ ss s<0
  ·by_cases h6:6≤ss.length
   ·rw [if_pos ⟨ha,h6⟩] at h
    repeat' (first | exact h | refine BM ?_ | refine IF (by first | with_reducible assumption | omega) ?_ | refine CI (by first | with_reducible assumption | omega) rfl ?_ | refine CM (by first | with_reducible assumption | omega) ?_ | refine DV ?_)
    all_goals omega
   ·rw [if_neg (by omega),if_pos ha,if_pos ha] at h
    refine BM (BM (BM (IF ha (JA (CI ha rfl (C3 (by omega) (BS (AV (CM ha (DP rfl (by omega) ?_))))))))))
    repeat' (first | refine LA ?_ | refine DT ?_ | refine QU (by omega) (by omega) ?_ | refine J8 (by omega) (by decide) rfl ?_ | simp only [AK,AS,AJ,AI,AM,AE,AH,AN,AO,AP,AL,AR,AT,AQ,BB,BE,BI,BH,BK,BJ,BF,AX,A4,AY,A1,AZ,A5])
    rw [←TW] at h
    exact OD (y:=N8 (w64 ((ob os (CX os).toNat).gen+1)) ss.length) (by omega) rfl (LH h)
  ·rw [if_neg (by omega),if_neg ha,if_neg ha] at h
   refine BM (BM (BM (LP ha (CD ha rfl (BT (BS (AV (C3 (by omega) ?_))))))))
   repeat' (first | refine LA ?_ | refine DT ?_ | refine QU (by omega) (by omega) ?_ | refine J8 (by omega) (by decide) rfl ?_ | simp only [AK,AS,AJ,AI,AM,AE,AH,AN,AO,AP,AL,AR,AT,AQ,BB,BE,BI,BH,BK,BJ,BF,AX,A4,AY,A1,AZ,A5])
   exact OD (y:=N8 (w64 ((ob os (CX os).toNat).gen+1)) (at_ ss s)) (by omega) rfl (LH h)
def WK (r:List A7×List Int×List Int):List A7×List Int×An:=(r.1,r.2.1,⟨0,0,r.2.2⟩)
def KA (os:List A7) (buf:List Int) (kind id:Int):List A7×List Int×An:=
 if AD os id<0 then (os,buf,⟨1,0,[]⟩) else
 if kind=2 then
  if (ob os (AD os id).toNat).holds=20 then (os,buf,⟨4,0,[]⟩) else (EE (os.set (AD os id).toNat {ob os (AD os id).toNat with holds:=(ob os (AD os id).toNat).holds+1}) id,buf,⟨0,0,[]⟩)
 else if kind=5 then
  if (ob os (AD os id).toNat).roots=20 then (os,buf,⟨4,0,[]⟩) else (EE (os.set (AD os id).toNat {ob os (AD os id).toNat with roots:=(ob os (AD os id).toNat).roots+1}) id,buf,⟨0,0,[]⟩)
 else if kind=3 then
  if (ob os (AD os id).toNat).holds=0 then (os,buf,⟨5,0,[]⟩) else WK (IQ (os.set (AD os id).toNat {ob os (AD os id).toNat with holds:=(ob os (AD os id).toNat).holds-1}) buf [id])
 else
  if (ob os (AD os id).toNat).roots=0 then (os,buf,⟨5,0,[]⟩) else WK (IQ (os.set (AD os id).toNat {ob os (AD os id).toNat with roots:=(ob os (AD os id).toNat).roots-1}) buf [id])
theorem stH {os:List A7} {k:Nat} {v:Int} {K:List T→Prop} (hk:k<os.length) (h:K (tR tO (os.set k {ob os k with holds:=v}))):stc (tR tO os) [] (AA (iv (AA (iv k)*8+3))) (I v) K:=by
 rw [A8 (AA (iv k)*8+3), ←EG hk] at*;exact dC hk h
theorem stR {os:List A7} {k:Nat} {v:Int} {K:List T→Prop} (hk:k<os.length) (h:K (tR tO (os.set k {ob os k with roots:=v}))):stc (tR tO os) [] (AA (iv (AA (iv k)*8+4))) (I v) K:=by
 rw [A8 (AA (iv k)*8+4), ←EG hk] at*;exact U9 hk (by decide) rfl rfl h
theorem bN {os:List A7} {buf:List Int} {b d:List T} {kind id:Int} {K:J2} (hol:os.length=8) (hof: ∀o∈os,OF o) (hb:buf.length≤100) (hid:F64 id) (hkd:kind=2∨kind=3∨kind=5∨kind=6) (hr: ∀i,(0≤(ob os i).holds∧(ob os i).holds≤20)∧(0≤(ob os i).roots∧(ob os i).roots≤20)) (h:K [I (KA os buf kind id).2.2.code,I (KA os buf kind id).2.2.val] [tI (KA os buf kind id).2.2.freed,tR tO (KA os buf kind id).1,tI (KA os buf kind id).2.1]):cl2 ⟨Tryz.prog,w0⟩ 127 DS.sg [I kind,I id] [tR tO os,b,tI buf,d] K:=by
 refine DS.cl2 ?_
 unfold DS.txt
 simp only [AK,AS,AJ,AI,AM,AE,AH,AN,AO,AP,AL,AR,AT,AQ,BB,BE,BI,BH,BK,BJ,BF,AX,A4,AY,A1,AZ,A5]
 unfold KA at h
 refine DC hid (by omega) (AV (AG (fun hs=> ?_) fun hs=> ?_))
 ·rw [if_pos hs] at h
  exact CG h
 rw [if_neg hs] at h
 have hkb:=BV (l:=os) (id:=id) (by omega)
 obtain ⟨k,hkk⟩: ∃k,(AD os id).toNat=k:=⟨_,rfl⟩
 have hkI:AD os id=(k:Int):=by omega
 rw [hkk] at h hkb
 have hkl:k<os.length:=by omega
 have hrk:=hr k
 have ho:=hof _ (IM (l:=os) (i:=k) (by omega))
 obtain ⟨⟨r1,r2⟩,r3,r4⟩:=hrk
 rw [BB,hkI]
 refine AW (by omega) (BS ?_)
 simp only [AK,AS,AJ,AI,AM,AE,AH,AN,AO,AP,AL,AR,AT,AQ,BB,BE,BI,BH,BK,BJ,BF,AX,A4,AY,A1,AZ,A5]
 rcases hkd with rfl | rfl | rfl | rfl
 ·simp only [if_true] at h
  repeat' (first | refine BM ?_ | refine NV ?_ | refine NH ?_ | refine CI (by first | with_reducible assumption | omega) rfl ?_ | refine CD (by first | with_reducible assumption | omega) rfl ?_ | refine BP ?_ | refine BT ?_ | refine BA ?_ | refine B3 ⟨by omega,by omega⟩ ?_ | refine J8 (by omega) (by decide) rfl ?_ | refine AG (fun _=> ?_) (fun _=> ?_))
  ·rename_i h20
   rw [if_pos h20] at h
   exact CG h
  ·rename_i h20
   rw [if_neg h20] at h
   exact stH hkl (SO hid (by simpa using hol) h)
 ·simp only [if_neg (show ¬(3:Int)=2 by decide),if_neg (show ¬(3:Int)=5 by decide),if_true] at h
  repeat' (first | refine BM ?_ | refine NV ?_ | refine CD (by first | with_reducible assumption | omega) rfl ?_ | refine BT ?_ | refine BA ?_ | refine B3 ⟨by omega,by omega⟩ ?_ | refine J8 (by omega) (by decide) rfl ?_ | refine AG (fun _=> ?_) (fun _=> ?_))
  ·rename_i h20
   rw [if_pos h20] at h
   exact CG h
  ·rename_i h20
   rw [if_neg h20] at h
   exact stH hkl (R6 (buf:=buf) (ids:=[id]) (by simpa using hol) (JF hof ⟨ho.gen,ho.len,ho.fld⟩) (by omega) (by simp) (by simpa using hid) h)
 ·simp only [if_neg (show ¬(5:Int)=2 by decide),if_true] at h
  repeat' (first | refine BM ?_ | refine NV ?_ | refine NH ?_ | refine CI (by first | with_reducible assumption | omega) rfl ?_ | refine CD (by first | with_reducible assumption | omega) rfl ?_ | refine BP ?_ | refine BA ?_ | refine B3 ⟨by omega,by omega⟩ ?_ | refine AW (by omega) ?_ | refine J8 (by omega) (by decide) rfl ?_ | refine AG (fun _=> ?_) (fun _=> ?_))
  ·rename_i h20
   rw [if_pos h20] at h
   exact CG h
  ·rename_i h20
   rw [if_neg h20] at h
   exact stR hkl (SO hid (by simpa using hol) h)
 ·simp only [if_neg (show ¬(6:Int)=2 by decide),if_neg (show ¬(6:Int)=5 by decide),if_neg (show ¬(6:Int)=3 by decide)] at h
  repeat' (first | refine BM ?_ | refine NV ?_ | refine CD (by first | with_reducible assumption | omega) rfl ?_ | refine BP ?_ | refine BT ?_ | refine BA ?_ | refine B3 ⟨by omega,by omega⟩ ?_ | refine AW (by omega) ?_ | refine J8 (by omega) (by decide) rfl ?_ | refine AG (fun _=> ?_) (fun _=> ?_))
  ·rename_i h20
   rw [if_pos h20] at h
   exact CG h
  ·rename_i h20
   rw [if_neg h20] at h
   exact stR hkl (R6 (buf:=buf) (ids:=[id]) (by simpa using hol) (JF hof ⟨ho.gen,ho.len,ho.fld⟩) (by omega) (by simp) (by simpa using hid) h)
theorem Ey {os:List A7} {k:Nat} {v:Int} {K:List T→Prop} (hk:k<os.length) (h:K (tR tO (os.set k {ob os k with holds:=v}))):stc (tR tO os) [] (AA (iv k)*8+3) (I v) K:=by
 rw [←EG hk] at h;exact dC hk h
theorem Ew {os:List A7} {k:Nat} {v:Int} {K:List T→Prop} (hk:k<os.length) (h:K (tR tO (os.set k {ob os k with roots:=v}))):stc (tR tO os) [] (AA (iv k)*8+4) (I v) K:=by
 rw [←EG hk] at h;exact U9 hk (by decide) rfl rfl h
theorem St.set {h:Hp} {os:List A7} (st:St h) (hl:os.length=h.BD.length) (ho: ∀o∈os,OF o):St {h with BD:=os}:=⟨by have:=st.ol;simp only;omega,st.wl,st.sl,st.bl,ho,st.ss,st.wf,st.bf⟩
theorem cN {h:Hp} {kind id b c:Int} {s:ByteArray} {K:J2} (st:St h) (hid:F64 id) (hkd:kind=2∨kind=3∨kind=5∨kind=6) (hr: ∀i,(0≤(ob h.BD i).holds∧(ob h.BD i).holds≤20)∧(0≤(ob h.BD i).roots∧(ob h.BD i).roots≤20)) (hK:K [I (KA h.BD h.buffer kind id).2.2.code,I (KA h.BD h.buffer kind id).2.2.val] [tR tO (KA h.BD h.buffer kind id).1,tR tW h.B8,tI (KA h.BD h.buffer kind id).2.1,tS h.sites,tI (KA h.BD h.buffer kind id).2.2.freed]):cl2 ⟨Tryz.prog,w0⟩ 105 I0.sg [I kind,I id,I b,I c, .string s] (trees h) K:=by
 refine I0.cl2 ?_
 unfold I0.txt
 obtain ⟨os,ws,buf,ss⟩:=h
 have hol:os.length=8:=st.ol
 have hof: ∀o∈os,OF o:=st.of
 simp only at hr hK
 simp only [trees]
 simp only [AK,AS,AJ,AI,AM,AE,AH,AN,AO,AP,AL,AR,AT,AQ,BB,BE,BI,BH,BK,BJ,BF,AX,A4,AY,A1,AZ,A5]
 unfold KA at hK
 refine DB hid (by omega) (AV (AG (fun hs=> ?_) fun hs=> ?_))
 ·rw [if_pos hs] at hK
  exact hK
 rw [if_neg hs] at hK
 have hkb:=BV (l:=os) (id:=id) (by omega)
 obtain ⟨k,hkk⟩: ∃k,(AD os id).toNat=k:=⟨_,rfl⟩
 have hkI:AD os id=(k:Int):=by omega
 rw [hkk] at hK hkb
 have hkl:k<os.length:=by omega
 have hrk:=hr k
 have ho:=hof _ (IM (l:=os) (i:=k) (by omega))
 obtain ⟨⟨r1,r2⟩,r3,r4⟩:=hrk
 rw [BB,hkI]
 refine AW (by omega) (OM hkl (BS (BS ?_)))
 simp only [o7,qT,wY,uK,uS,oA,uP]
 have gn: ∀{os':List A7} {K:J2},os'.length=os.length→(∀o∈os',OF o)→K [] [tR tO (EE os' id),tR tW ws,tI buf,tS ss]→cl2 ⟨Tryz.prog,w0⟩ 158 HD.sg [I id] [tR tO os',tR tW ws,tI buf,tS ss] K:=fun hl ho hk=>XS (St.set st hl ho) hid hk
 have ls: ∀{os':List A7} {K:J2},os'.length=os.length→(∀o∈os',OF o)→K [] [tR tO (IQ os' buf [id]).1,tR tW ws,tI (IQ os' buf [id]).2.1,tS ss,tI (IQ os' buf [id]).2.2]→cl2 ⟨Tryz.prog,w0⟩ 159 IA.sg [] [tR tO os',tR tW ws,tI buf,tS ss,tI [id]] K:=fun hl ho hk=>XW (St.set st hl ho) (by simp) (by simpa using hid) hk
 rcases hkd with rfl | rfl | rfl | rfl
 ·simp only [if_true] at hK
  by_cases h20:(ob os k).holds=20
  ·rw [if_pos h20] at hK
   repeat' (first | refine BM ?_ | refine QK ?_ | refine CI (by first | with_reducible assumption | omega) rfl ?_ | refine CM (by first | with_reducible assumption | omega) ?_ | refine DV ?_ | refine BA ?_ | simp only [AK,AS,AJ,AI,AM,AE,AH,AN,AO,AP,AL,AR,AT,AQ,BB,BE,BI,BH,BK,BJ,BF,AX,A4,AY,A1,AZ,A5])
   exact hK
  ·rw [if_neg h20] at hK
   repeat' (first | refine BS ?_ | refine BM ?_ | refine QK ?_ | refine NF ?_ | refine CI (by first | with_reducible assumption | omega) rfl ?_ | refine CD (by first | with_reducible assumption | omega) rfl ?_ | refine BP ?_ | refine BT ?_ | refine C3 (by first | with_reducible assumption | omega) ?_ | refine DV ?_ | refine BA ?_ | refine B3 ⟨by omega,by omega⟩ ?_ | refine AW (by omega) ?_ | simp only [AK,AS,AJ,AI,AM,AE,AH,AN,AO,AP,AL,AR,AT,AQ,BB,BE,BI,BH,BK,BJ,BF,AX,A4,AY,A1,AZ,A5])
   exact Ey hkl (gn (by simp) (JF hof ⟨ho.gen,ho.len,ho.fld⟩) hK)
 ·simp only [if_neg (show ¬(3:Int)=2 by decide),if_neg (show ¬(3:Int)=5 by decide),if_true] at hK
  by_cases h20:(ob os k).holds=0
  ·rw [if_pos h20] at hK
   repeat' (first | refine BS ?_ | refine BM ?_ | refine QK ?_ | refine NF ?_ | refine CI (by first | with_reducible assumption | omega) rfl ?_ | refine CD (by first | with_reducible assumption | omega) rfl ?_ | refine BT ?_ | refine CM (by first | with_reducible assumption | omega) ?_ | refine AV ?_ | refine BA ?_ | simp only [AK,AS,AJ,AI,AM,AE,AH,AN,AO,AP,AL,AR,AT,AQ,BB,BE,BI,BH,BK,BJ,BF,AX,A4,AY,A1,AZ,A5])
   exact hK
  ·rw [if_neg h20] at hK
   repeat' (first | refine BS ?_ | refine BM ?_ | refine QK ?_ | refine NF ?_ | refine CI (by first | with_reducible assumption | omega) rfl ?_ | refine CD (by first | with_reducible assumption | omega) rfl ?_ | refine BP ?_ | refine BT ?_ | refine C3 (by first | with_reducible assumption | omega) ?_ | refine AV ?_ | refine BA ?_ | refine B3 ⟨by omega,by omega⟩ ?_ | refine AW (by omega) ?_ | simp only [AK,AS,AJ,AI,AM,AE,AH,AN,AO,AP,AL,AR,AT,AQ,BB,BE,BI,BH,BK,BJ,BF,AX,A4,AY,A1,AZ,A5])
   exact Ey hkl (ls (by simp) (JF hof ⟨ho.gen,ho.len,ho.fld⟩) hK)
 ·simp only [if_neg (show ¬(5:Int)=2 by decide),if_true] at hK
  by_cases h20:(ob os k).roots=20
  ·rw [if_pos h20] at hK
   repeat' (first | refine BM ?_ | refine QK ?_ | refine NF ?_ | refine CI (by first | with_reducible assumption | omega) rfl ?_ | refine CD (by first | with_reducible assumption | omega) rfl ?_ | refine BT ?_ | refine CM (by first | with_reducible assumption | omega) ?_ | refine DV ?_ | refine BA ?_ | simp only [AK,AS,AJ,AI,AM,AE,AH,AN,AO,AP,AL,AR,AT,AQ,BB,BE,BI,BH,BK,BJ,BF,AX,A4,AY,A1,AZ,A5])
   exact hK
  ·rw [if_neg h20] at hK
   repeat' (first | refine BS ?_ | refine BM ?_ | refine QK ?_ | refine NF ?_ | refine CI (by first | with_reducible assumption | omega) rfl ?_ | refine CD (by first | with_reducible assumption | omega) rfl ?_ | refine BP ?_ | refine BT ?_ | refine C3 (by first | with_reducible assumption | omega) ?_ | refine DV ?_ | refine BA ?_ | refine B3 ⟨by omega,by omega⟩ ?_ | refine AW (by omega) ?_ | simp only [AK,AS,AJ,AI,AM,AE,AH,AN,AO,AP,AL,AR,AT,AQ,BB,BE,BI,BH,BK,BJ,BF,AX,A4,AY,A1,AZ,A5])
   exact Ew hkl (gn (by simp) (JF hof ⟨ho.gen,ho.len,ho.fld⟩) hK)
 ·simp only [if_neg (show ¬(6:Int)=2 by decide),if_neg (show ¬(6:Int)=5 by decide),if_neg (show ¬(6:Int)=3 by decide)] at hK
  by_cases h20:(ob os k).roots=0
  ·rw [if_pos h20] at hK
   repeat' (first | refine BS ?_ | refine BM ?_ | refine QK ?_ | refine NF ?_ | refine CI (by first | with_reducible assumption | omega) rfl ?_ | refine CD (by first | with_reducible assumption | omega) rfl ?_ | refine BT ?_ | refine CM (by first | with_reducible assumption | omega) ?_ | refine AV ?_ | refine BA ?_ | simp only [AK,AS,AJ,AI,AM,AE,AH,AN,AO,AP,AL,AR,AT,AQ,BB,BE,BI,BH,BK,BJ,BF,AX,A4,AY,A1,AZ,A5])
   exact hK
  ·rw [if_neg h20] at hK
   repeat' (first | refine BS ?_ | refine BM ?_ | refine QK ?_ | refine NF ?_ | refine CI (by first | with_reducible assumption | omega) rfl ?_ | refine CD (by first | with_reducible assumption | omega) rfl ?_ | refine BT ?_ | refine C3 (by first | with_reducible assumption | omega) ?_ | refine AV ?_ | refine BA ?_ | refine B3 ⟨by omega,by omega⟩ ?_ | refine AW (by omega) ?_ | simp only [AK,AS,AJ,AI,AM,AE,AH,AN,AO,AP,AL,AR,AT,AQ,BB,BE,BI,BH,BK,BJ,BF,AX,A4,AY,A1,AZ,A5])
   exact Ew hkl (ls (by simp) (JF hof ⟨ho.gen,ho.len,ho.fld⟩) hK)
end Go.Proofs.YtnhicpkhkaihoaaGreat.P
namespace Go.Proofs.YtnhicpkhkaihoaaGreat.P
open Go Go.Proofs.YtnhicpkhkaihoaaGreat Go.Proofs.YtnhicpkhkaihoaaGreat.Eng
set_option linter.unusedVariables false
set_option maxHeartbeats 4000000
set_option linter.unusedVariables false
set_option linter.unusedSimpArgs false
attribute [local irreducible] prP gP gE gF AU ixW ldc ldg ldl stc stg scW mkW apW BG cl2 BX GP CZ
variable {w0:World}
def HZ (os:List A7) (buf:List Int) (a b c:Int):List A7×List Int×An:=
 if AD os a<0∨(c≠ -1∧AD os c<0) then (os,buf,⟨1,0,[]⟩) else
 if ¬(0≤b∧b≤2) then (os,buf,⟨2,0,[]⟩) else
 if gI (ob os (AD os a).toNat).field b.toNat= -1 then
  ((EE os c).set (AD os a).toNat {ob (EE os c) (AD os a).toNat with field:=(ob os (AD os a).toNat).field.set b.toNat c},buf,⟨0,0,[]⟩)
 else WK (IQ ((EE os c).set (AD os a).toNat {ob (EE os c) (AD os a).toNat with field:=(ob os (AD os a).toNat).field.set b.toNat c}) buf [gI (ob os (AD os a).toNat).field b.toNat])
theorem JY {l:List A7} {i k:Nat} {o:A7} (hk:k<l.length):ob (l.set k o) i=if i=k then o else ob l i:=by
 unfold ob
 by_cases h:i=k
 ·subst h
  rw [if_pos rfl,List.getD_eq_getElem?_getD,List.getElem?_set_self hk];rfl
 ·rw [if_neg h,List.getD_eq_getElem?_getD,List.getElem?_set_ne (Ne.symm h),List.getD_eq_getElem?_getD]
theorem a8 {os:List A7} {id:Int} {i:Nat}:(ob (EE os id) i).live=(ob os i).live∧(ob (EE os id) i).gen=(ob os i).gen∧(ob (EE os id) i).site=(ob os i).site∧(ob (EE os id) i).holds=(ob os i).holds∧(ob (EE os id) i).roots=(ob os i).roots∧(ob (EE os id) i).field=(ob os i).field∧(ob (EE os id) i).purple=(ob os i).purple:=by
 unfold EE
 split
 ·exact ⟨rfl,rfl,rfl,rfl,rfl,rfl,rfl⟩
 ·have hk:=BV (l:=os) (id:=id) (by omega)
  rw [JY (by omega)]
  split
  ·rename_i h;subst h;exact ⟨rfl,rfl,rfl,rfl,rfl,rfl,rfl⟩
  ·exact ⟨rfl,rfl,rfl,rfl,rfl,rfl,rfl⟩
theorem stF {os:List A7} {k j:Nat} {v:Int} {K:List T→Prop} (hk:k<os.length) (hj:j<(ob os k).field.length) (h:K (tR tO (os.set k {ob os k with field:=(ob os k).field.set j v}))):stc (tR tO os) [AA (iv k)*8+6] (AA (iv j)*1) (I v) K:=by
 rw [←EG hk] at h hj;exact rI hk hj h
theorem OF.put {o:A7} {m:List Int} (h:OF o) (hl:m.length=3) (hf: ∀x∈m,F64 x):OF {o with field:=m}:=⟨h.gen,hl,hf⟩
theorem iG {os:List A7} {buf:List Int} {b d:List T} {a0 a1 a2 a3:Int} {s:ByteArray} {K:J2} (hol:os.length=8) (hof: ∀o∈os,OF o) (hb:buf.length≤100) (h1:F64 a1) (h3:F64 a3) (h:K [I (HZ os buf a1 a2 a3).2.2.code,I (HZ os buf a1 a2 a3).2.2.val] [tI (HZ os buf a1 a2 a3).2.2.freed,tR tO (HZ os buf a1 a2 a3).1,tI (HZ os buf a1 a2 a3).2.1]):cl2 ⟨Tryz.prog,w0⟩ 128 ET.sg [I a0,I a1,I a2,I a3, .string s] [tR tO os,b,tI buf,d] K:=by
 refine ET.cl2 ?_
 unfold ET.txt
 unfold HZ at h
 refine DC h1 (by omega) ?_
 by_cases hs:AD os a1<0
 ·rw [if_pos (.inl hs)] at h
  repeat' (first | exact CG h | refine BM ?_ | refine vI ?_ | refine XH (by first | with_reducible assumption | omega) ?_ | refine I8 (by first | with_reducible assumption | omega) ?_ | refine CI (by first | with_reducible assumption | omega) rfl ?_ | refine BP ?_ | refine AV ?_)
 have hkb:=BV (l:=os) (id:=a1) (by omega)
 by_cases hc:a3≠ -1∧AD os a3<0
 ·obtain ⟨hc1,hc2⟩:=hc
  rw [if_pos (.inr ⟨hc1,hc2⟩)] at h
  repeat' (first | refine DC h3 (by omega) ?_ | exact CG h | refine BM ?_ | refine RT ?_ | refine S9 (by first | with_reducible assumption | omega) ?_ | refine IF (by first | with_reducible assumption | omega) ?_ | refine EP (by first | with_reducible assumption | omega) ?_ | refine CI (by first | with_reducible assumption | omega) rfl ?_ | refine CD (by first | with_reducible assumption | omega) rfl ?_ | refine CM (by first | with_reducible assumption | omega) ?_ | refine AV ?_ | refine B9 ?_)
 rw [if_neg (by omega)] at h
 by_cases hb2: ¬(0≤a2∧a2≤2)
 ·rw [if_pos hb2] at h
  repeat' (first | refine DC h3 (by omega) ?_ | refine GA ?_ | exact CG h | refine BM ?_ | refine RT ?_ | refine S9 (by first | with_reducible assumption | omega) ?_ | refine IF (by first | with_reducible assumption | omega) ?_ | refine LP (by first | with_reducible assumption | omega) ?_ | refine EP (by first | with_reducible assumption | omega) ?_ | refine CI (by first | with_reducible assumption | omega) rfl ?_ | refine CD (by first | with_reducible assumption | omega) rfl ?_ | refine BT ?_ | refine CM (by first | with_reducible assumption | omega) ?_ | refine C3 (by first | with_reducible assumption | omega) ?_ | refine AV ?_ | refine B9 ?_ | refine CP ?_ | refine IG (fun _=> ?_) (fun _=> ?_))
 rw [if_neg hb2] at h
 obtain ⟨k,hkk⟩: ∃k,(AD os a1).toNat=k:=⟨_,rfl⟩
 have hkI:AD os a1=(k:Int):=by omega
 rw [hkk] at h hkb
 obtain ⟨j,rfl⟩: ∃j:Nat,a2=j:=⟨a2.toNat,by omega⟩
 rw [Int.toNat_natCast] at h
 have hkl:k<os.length:=by omega
 have ho:=hof _ (IM (l:=os) (i:=k) (by omega))
 obtain ⟨_,_,_,_,_,gf,_⟩:=a8 (os:=os) (id:=a3) (i:=k)
 have gl:=QS os a3
 have gof:=V5 (id:=a3) hof
 have jl:j<(ob os k).field.length:=by rw [ho.len];omega
 rw [hkI]
 repeat' (first | refine DC h3 (by omega) ?_ | refine GA ?_ | refine SO h3 hol ?_ | refine BM ?_ | refine RT ?_ | refine bE ?_ | refine NV ?_ | refine IF (by first | with_reducible assumption | omega) ?_ | refine LP (by first | with_reducible assumption | omega) ?_ | refine CI (by first | with_reducible assumption | omega) rfl ?_ | refine CD (by first | with_reducible assumption | omega) rfl ?_ | refine BT ?_ | refine C3 (by first | with_reducible assumption | omega) ?_ | refine AV ?_ | refine B9 ?_ | refine CP ?_ | refine AW (by omega) ?_ | refine iO (by omega) ?_ | refine IG (fun _=> ?_) (fun _=> ?_) | simp only [AK,AS,AJ,AI,AM,AE,AH,AN,AO,AP,AL,AR,AT,AQ,BB,BE,BI,BH,BK,BJ,BF,AX,A4,AY,A1,AZ,A5])
 all_goals
  refine AW (by rw [I5 (by omega),AE,gf];exact jl) (OL (by omega) (by rw [gf];exact jl) (AW (by omega) ?_))
  rw [gf]
  refine R1 (f:=tO) (i:=k) (by omega) (by decide) rfl ?_
  refine AW (by rw [I5 (by omega),AE,gf];exact jl) (stF (by omega) (by rw [gf];exact jl) ?_)
  rw [gf]
  refine BA (AG (fun he=> ?_) fun he=> ?_)
  ·rw [if_pos he] at h;exact h
  ·rw [if_neg he] at h
   exact R6 (buf:=buf) (ids:=[gI (ob os k).field j]) (by simpa using gl.trans hol) (JF gof (OF.put (gof _ (IM (by omega))) (by rw [List.length_set];exact ho.len) fun x hx=>(List.mem_or_eq_of_mem_set hx).elim (ho.fld x) fun he=>he ▸ h3)) (by omega) (by simp) (by simpa using ho.fld _ (FD jl)) h
theorem bV {h:Hp} {a0 a1 a2 a3:Int} {s:ByteArray} {K:J2} (st:St h) (h1:F64 a1) (h3:F64 a3) (hfd: ∀i, ∀f∈(ob h.BD i).field,f= -1∨0≤f) (hK:K [I (HZ h.BD h.buffer a1 a2 a3).2.2.code,I (HZ h.BD h.buffer a1 a2 a3).2.2.val] [tR tO (HZ h.BD h.buffer a1 a2 a3).1,tR tW h.B8,tI (HZ h.BD h.buffer a1 a2 a3).2.1,tS h.sites,tI (HZ h.BD h.buffer a1 a2 a3).2.2.freed]):cl2 ⟨Tryz.prog,w0⟩ 106 HV.sg [I a0,I a1,I a2,I a3, .string s] (trees h) K:=by
 refine HV.cl2 ?_
 unfold HV.txt
 obtain ⟨os,ws,buf,ss⟩:=h
 have hol:os.length=8:=st.ol
 have hof: ∀o∈os,OF o:=st.of
 simp only at hK hfd
 simp only [trees]
 unfold HZ at hK
 have gn: ∀{K:J2},K [] [tR tO (EE os a3),tR tW ws,tI buf,tS ss]→cl2 ⟨Tryz.prog,w0⟩ 158 HD.sg [I a3] [tR tO os,tR tW ws,tI buf,tS ss] K:=fun hk=>XS st h3 hk
 have ls: ∀{os':List A7} {x:Int} {K:J2},os'.length=os.length→(∀o∈os',OF o)→F64 x→K [] [tR tO (IQ os' buf [x]).1,tR tW ws,tI (IQ os' buf [x]).2.1,tS ss,tI (IQ os' buf [x]).2.2]→cl2 ⟨Tryz.prog,w0⟩ 159 IA.sg [] [tR tO os',tR tW ws,tI buf,tS ss,tI [x]] K:=fun hl ho hx hk=>XW (St.set st hl ho) (by simp) (by simpa using hx) hk
 refine DB h1 (by omega) ?_
 by_cases hs:AD os a1<0
 ·rw [if_pos (.inl hs)] at hK
  repeat' (first | exact hK | refine BM ?_ | refine vI ?_ | refine XH (by first | with_reducible assumption | omega) ?_ | refine I8 (by first | with_reducible assumption | omega) ?_ | refine CI (by first | with_reducible assumption | omega) rfl ?_ | refine BP ?_ | refine AV ?_)
 have hkb:=BV (l:=os) (id:=a1) (by omega)
 by_cases hc:a3≠ -1∧AD os a3<0
 ·obtain ⟨hc1,hc2⟩:=hc
  rw [if_pos (.inr ⟨hc1,hc2⟩)] at hK
  repeat' (first | refine DB h3 (by omega) ?_ | exact hK | refine BM ?_ | refine RT ?_ | refine S9 (by first | with_reducible assumption | omega) ?_ | refine IF (by first | with_reducible assumption | omega) ?_ | refine EP (by first | with_reducible assumption | omega) ?_ | refine CI (by first | with_reducible assumption | omega) rfl ?_ | refine CD (by first | with_reducible assumption | omega) rfl ?_ | refine CM (by first | with_reducible assumption | omega) ?_ | refine AV ?_ | refine B9 ?_)
 rw [if_neg (by omega)] at hK
 by_cases hb2: ¬(0≤a2∧a2≤2)
 ·rw [if_pos hb2] at hK
  repeat' (first | refine DB h3 (by omega) ?_ | refine D6 ?_ | exact hK | refine BM ?_ | refine RT ?_ | refine S9 (by first | with_reducible assumption | omega) ?_ | refine IF (by first | with_reducible assumption | omega) ?_ | refine LP (by first | with_reducible assumption | omega) ?_ | refine EP (by first | with_reducible assumption | omega) ?_ | refine CI (by first | with_reducible assumption | omega) rfl ?_ | refine CD (by first | with_reducible assumption | omega) rfl ?_ | refine BT ?_ | refine CM (by first | with_reducible assumption | omega) ?_ | refine C3 (by first | with_reducible assumption | omega) ?_ | refine AV ?_ | refine B9 ?_ | refine CP ?_ | refine IG (fun _=> ?_) (fun _=> ?_))
 rw [if_neg hb2] at hK
 obtain ⟨k,hkk⟩: ∃k,(AD os a1).toNat=k:=⟨_,rfl⟩
 have hkI:AD os a1=(k:Int):=by omega
 rw [hkk] at hK hkb
 obtain ⟨j,rfl⟩: ∃j:Nat,a2=j:=⟨a2.toNat,by omega⟩
 rw [Int.toNat_natCast] at hK
 have hkl:k<os.length:=by omega
 have ho:=hof _ (IM (l:=os) (i:=k) (by omega))
 obtain ⟨_,_,_,_,_,gf,_⟩:=a8 (os:=os) (id:=a3) (i:=k)
 have gl:=QS os a3
 have gof:=V5 (id:=a3) hof
 have jl:j<(ob os k).field.length:=by rw [ho.len];omega
 have hold:=hfd k _ (FD jl)
 rw [hkI]
 repeat' (first | refine DB h3 (by omega) ?_ | refine D6 ?_ | refine BM ?_ | refine RT ?_ | refine bE ?_ | refine NV ?_ | refine IF (by first | with_reducible assumption | omega) ?_ | refine LP (by first | with_reducible assumption | omega) ?_ | refine CI (by first | with_reducible assumption | omega) rfl ?_ | refine CD (by first | with_reducible assumption | omega) rfl ?_ | refine BT ?_ | refine C3 (by first | with_reducible assumption | omega) ?_ | refine AV ?_ | refine B9 ?_ | refine CP ?_ | refine AW (by omega) ?_ | refine iO (by omega) ?_ | refine IG (fun _=> ?_) (fun _=> ?_) | simp only [AK,AS,AJ,AI,AM,AE,AH,AN,AO,AP,AL,AR,AT,AQ,BB,BE,BI,BH,BK,BJ,BF,AX,A4,AY,A1,AZ,A5])
 all_goals
  refine AW (by rw [I5 (by omega),AE];exact jl) (OL (by omega) jl (BS ?_))
  simp only [AK,AS,AJ,AI,AM,AE,AH,AN,AO,AP,AL,AR,AT,AQ,BB,BE,BI,BH,BK,BJ,BF,AX,A4,AY,A1,AZ,A5]
  refine JA (AG (fun hge=>gn ?_) fun hlt=> ?_)
  ·simp only [AK,AS,AJ,AI,AM,AE,AH,AN,AO,AP,AL,AR,AT,AQ,BB,BE,BI,BH,BK,BJ,BF,AX,A4,AY,A1,AZ,A5]
   refine AW (by omega) (R1 (f:=tO) (i:=k) (by omega) (by decide) rfl ?_)
   refine AW (by rw [I5 (by omega),AE,gf];exact jl) (stF (by omega) (by rw [gf];exact jl) ?_)
   rw [gf]
   refine AV (AG (fun he=> ?_) fun he=> ?_)
   ·rw [if_pos (by omega)] at hK;exact hK
   ·rw [if_neg (by omega)] at hK
    exact ls (by simpa using gl) (JF gof (OF.put (gof _ (IM (by omega))) (by rw [List.length_set];exact ho.len) fun x hx=>(List.mem_or_eq_of_mem_set hx).elim (ho.fld x) fun he=>he ▸ h3)) (ho.fld _ (FD jl)) hK
  ·have e0:EE os a3=os:=by unfold EE;rw [if_pos];rw [MP (by omega)];decide
   rw [e0] at hK
   refine AW (by omega) (R1 (f:=tO) (i:=k) (by omega) (by decide) rfl ?_)
   refine AW (by rw [I5 (by omega),AE];exact jl) (stF (by omega) jl ?_)
   refine AV (AG (fun he=> ?_) fun he=> ?_)
   ·rw [if_pos (by omega)] at hK;exact hK
   ·rw [if_neg (by omega)] at hK
    exact ls (by simp) (JF hof (OF.put ho (by rw [List.length_set];exact ho.len) fun x hx=>(List.mem_or_eq_of_mem_set hx).elim (ho.fld x) fun he=>he ▸ h3)) (ho.fld _ (FD jl)) hK
def NX (os:List A7) (ws:List Wk) (id:Int):List Wk×An:=
 if AD os id<0 then (ws,⟨1,0,[]⟩) else if K3 ws<0 then (ws,⟨3,0,[]⟩) else (ws.set (K3 ws).toNat ⟨true,id⟩,⟨0,K3 ws,[]⟩)
def JB (os:List A7) (ws:List Wk) (kind k:Int):List Wk×An:=
 if ¬(0≤k∧k≤(ws.length:Int)-1) then (ws,⟨2,0,[]⟩) else
 if (wk ws k.toNat).used=false then (ws,⟨2,0,[]⟩) else
 if kind=9 then (ws.set k.toNat ⟨false,0⟩,⟨0,0,[]⟩) else
 if AD os (wk ws k.toNat).target<0 then (ws,⟨0, -1,[]⟩) else (ws,⟨0,(wk ws k.toNat).target,[]⟩)
theorem eC {ws:List Wk} (h: ¬K3 ws<0):(K3 ws).toNat<ws.length∧K3 ws=((K3 ws).toNat:Int)∧(wk ws (K3 ws).toNat).used=false:=by
 rcases VW ws.length (fun i=> !(wk ws i).used) with ⟨h1,_⟩ | ⟨i,h1,h2,h3,_⟩
 ·unfold K3 at h;omega
 ·have e:K3 ws=i:=h2
  have e2:(K3 ws).toNat=i:=by omega
  rw [e2];exact ⟨h1,e,by simpa using h3⟩
theorem kE {os:List A7} {ws:List Wk} {c d:List T} {id:Int} {K:J2} (hol:os.length=8) (hwl:ws.length=8) (hid:F64 id) (h:K [I (NX os ws id).2.code,I (NX os ws id).2.val] [tI (NX os ws id).2.freed,tR tW (NX os ws id).1]):cl2 ⟨Tryz.prog,w0⟩ 129 FK.sg [I id] [tR tO os,tR tW ws,c,d] K:=by
 refine FK.cl2 ?_
 unfold FK.txt
 unfold NX at h
 simp only [AK,AS,AJ,AI,AM,AE,AH,AN,AO,AP,AL,AR,AT,AQ,BB,BE,BI,BH,BK,BJ,BF,AX,A4,AY,A1,AZ,A5]
 refine X3 hwl (DC hid (by omega) (AV (AG (fun hs=> ?_) fun hs=> ?_)))
 ·rw [if_pos hs] at h;exact CG h
 rw [if_neg hs] at h
 refine AV (AG (fun hf=> ?_) fun hf=> ?_)
 ·rw [if_pos hf] at h;exact CG h
 rw [if_neg hf] at h
 obtain ⟨f1,f2,f3⟩:=eC hf
 simp only [AK,AS,AJ,AI,AM,AE,AH,AN,AO,AP,AL,AR,AT,AQ,BB,BE,BI,BH,BK,BJ,BF,AX,A4,AY,A1,AZ,A5]
 rw [f2] at h ⊢
 rw [Int.toNat_natCast] at h
 exact AW f1 (OD (f:=tW) f1 (y:=⟨true,id⟩) rfl h)
theorem cM {os:List A7} {ws:List Wk} {c d:List T} {kind k:Int} {K:J2} (hol:os.length=8) (hwl:ws.length=8) (hk:F64 k) (hwf: ∀w∈ws,F64 w.target) (h:K [I (JB os ws kind k).2.code,I (JB os ws kind k).2.val] [tI (JB os ws kind k).2.freed,tR tW (JB os ws kind k).1]):cl2 ⟨Tryz.prog,w0⟩ 130 ED.sg [I kind,I k] [tR tO os,tR tW ws,c,d] K:=by
 refine ED.cl2 ?_
 unfold ED.txt
 unfold JB at h
 simp only [AK,AS,AJ,AI,AM,AE,AH,AN,AO,AP,AL,AR,AT,AQ,BB,BE,BI,BH,BK,BJ,BF,AX,A4,AY,A1,AZ,A5]
 refine DO ⟨by omega,by omega⟩ (GA (CP ?_))
 by_cases hb: ¬(0≤k∧k≤(ws.length:Int)-1)
 ·rw [if_pos hb] at h
  repeat' (first | exact CG h | refine BM ?_ | refine I8 (by first | with_reducible assumption | omega) ?_ | refine CI (by first | with_reducible assumption | omega) rfl ?_ | refine BP ?_)
 rw [if_neg hb] at h
 obtain ⟨j,rfl⟩: ∃j:Nat,k=j:=⟨k.toNat,by omega⟩
 rw [Int.toNat_natCast] at h
 have jl:j<ws.length:=by omega
 have hw:=hwf _ (List.getElem_mem jl)
 rw [eQ jl] at hw
 cases hu:(wk ws j).used with
 | false=>
   rw [if_pos hu] at h
   repeat' (first | refine TL (v:= .bool false) jl (by simp [tW,hu]) ?_ | exact CG h | refine BM ?_ | refine EP (by first | with_reducible assumption | omega) ?_ | refine CD (by first | with_reducible assumption | omega) rfl ?_ | refine BP ?_ | refine AW (by omega) ?_ | refine BU ?_)
 | true=>
   rw [if_neg (by rw [hu];decide)] at h
   repeat' (first | refine TL (v:= .bool true) jl (by simp [tW,hu]) ?_ | refine DC hw (by omega) ?_ | refine BM ?_ | refine EP (by first | with_reducible assumption | omega) ?_ | refine CD (by first | with_reducible assumption | omega) rfl ?_ | refine BT ?_ | refine AV ?_ | refine BA ?_ | refine AW (by omega) ?_ | refine vS (by omega) (by decide) rfl ?_ | refine AG (fun _=> ?_) (fun _=> ?_) | refine BU ?_)
   ·rename_i hh
    rw [if_pos hh] at h
    exact OD (f:=tW) jl (y:=⟨false,0⟩) rfl h
   ·rename_i hh hs
    rw [if_neg hh,if_pos hs] at h
    exact h
   ·rename_i hh hs
    rw [if_neg hh,if_neg hs] at h
    exact h
theorem cK {os:List A7} {ws:List Wk} {cc d:List T} {kind k b c:Int} {s:ByteArray} {K:J2} (hol:os.length=8) (hwl:ws.length=8) (hk:F64 k) (hwf: ∀w∈ws,F64 w.target) (h7:kind=7→K [I (NX os ws k).2.code,I (NX os ws k).2.val] [tR tW (NX os ws k).1,tI (NX os ws k).2.freed]) (h:kind≠7→K [I (JB os ws kind k).2.code,I (JB os ws kind k).2.val] [tR tW (JB os ws kind k).1,tI (JB os ws kind k).2.freed]):cl2 ⟨Tryz.prog,w0⟩ 107 I1.sg [I kind,I k,I b,I c, .string s] [tR tO os,tR tW ws,cc,d] K:=by
 refine I1.cl2 ?_
 unfold I1.txt
 simp only [AK,AS,AJ,AI,AM,AE,AH,AN,AO,AP,AL,AR,AT,AQ,BB,BE,BI,BH,BK,BJ,BF,AX,A4,AY,A1,AZ,A5]
 refine BA (AG (fun he=> ?_) fun he=> ?_)
 ·replace h:=h7 he
  clear h7
  unfold NX at h
  refine DB hk (by omega) (AV (AG (fun hs=> ?_) fun hs=> ?_))
  ·rw [if_pos hs] at h;exact h
  rw [if_neg hs] at h
  refine A9 (fun i=>[iv i,I kind,I k,I b,I c, .string s,I 0,I 0]) (fun _=>[tR tW ws]) ws.length (fun i=> ∀j,j<i→(!(wk ws j).used)=false) rfl rfl (fun k hk=>by omega) (fun R i hi hP hR=> ?_)
  simp only [AK,AS,AJ,AI,AM,AE,AH,AN,AO,AP,AL,AR,AT,AQ,BB,BE,BI,BH,BK,BJ,BF,AX,A4,AY,A1,AZ,A5]
  refine AV (AG (fun hlt=> ?_) fun hge=> ?_)
  ·have hlt:i<ws.length:=by omega
   cases hv:(wk ws i).used with
   | false=>
     refine AW hlt (TL (v:= .bool false) hlt (by simp [tW,hv]) (BU (BP (AW hlt ?_))))
     unfold K3 at h
     rw [PH hlt (by rw [hv];rfl) hP,if_neg (by omega),Int.toNat_natCast] at h
     exact OD (f:=tW) hlt (y:=⟨true,k⟩) rfl h
   | true=>
     refine AW hlt (TL (v:= .bool true) hlt (by simp [tW,hv]) (BU (BT (A6 (by omega) (hR hlt fun k hk=> ?_)))))
     rcases Nat.lt_succ_iff_lt_or_eq.1 hk with h3 | rfl
     ·exact hP k h3
     ·rw [hv];rfl
  ·have:i=ws.length:=by omega
   subst this
   unfold K3 at h
   rw [TM hP,if_pos (by decide)] at h;exact h
 ·replace h:=h he
  clear h7
  unfold JB at h
  refine DO ⟨by omega,by omega⟩ (D6 (CP ?_))
  by_cases hb: ¬(0≤k∧k≤(ws.length:Int)-1)
  ·rw [if_pos hb] at h
   repeat' (first | exact h | refine BM ?_ | refine I8 (by first | with_reducible assumption | omega) ?_ | refine CI (by first | with_reducible assumption | omega) rfl ?_ | refine BP ?_)
  rw [if_neg hb] at h
  obtain ⟨j,rfl⟩: ∃j:Nat,k=j:=⟨k.toNat,by omega⟩
  rw [Int.toNat_natCast] at h
  have jl:j<ws.length:=by omega
  have hw:=hwf _ (List.getElem_mem jl)
  rw [eQ jl] at hw
  cases hu:(wk ws j).used with
  | false=>
    rw [if_pos hu] at h
    repeat' (first | refine TL (v:= .bool false) jl (by simp [tW,hu]) ?_ | exact h | refine BM ?_ | refine EP (by first | with_reducible assumption | omega) ?_ | refine CD (by first | with_reducible assumption | omega) rfl ?_ | refine BP ?_ | refine AW (by omega) ?_ | refine BU ?_)
  | true=>
    rw [if_neg (by rw [hu];decide)] at h
    repeat' (first | refine TL (v:= .bool true) jl (by simp [tW,hu]) ?_ | refine DB hw (by omega) ?_ | refine BM ?_ | refine EP (by first | with_reducible assumption | omega) ?_ | refine CD (by first | with_reducible assumption | omega) rfl ?_ | refine BT ?_ | refine AV ?_ | refine BA ?_ | refine AW (by omega) ?_ | refine vS (by omega) (by decide) rfl ?_ | refine AG (fun _=> ?_) (fun _=> ?_) | refine BU ?_)
    ·rename_i hh
     rw [if_pos hh] at h
     exact OD (f:=tW) jl (y:=⟨false,0⟩) rfl h
    ·rename_i hh hs
     rw [if_neg hh,if_pos hs] at h
     exact h
    ·rename_i hh hs
     rw [if_neg hh,if_neg hs] at h
     exact h
end Go.Proofs.YtnhicpkhkaihoaaGreat.P
