/- A part of the proof. -/
import Derived.Test.YtklmcfpgdfibnaaLtHpI
namespace Go.Proofs.Ytklmcfpgdfibnaa.P
open Go Go.Proofs.Ytklmcfpgdfibnaa Go.Proofs.Ytklmcfpgdfibnaa.Eng
set_option linter.unusedVariables false
set_option maxHeartbeats 4000000
set_option linter.unusedVariables false
set_option linter.unusedSimpArgs false
attribute [local irreducible] prP gP gE gF AX ixW ldc ldg ldl stc stg scW mkW apW BL cl2 BS EB B8
variable {w0:World}
def MM (n:Nat) (p:Nat→Bool):Int:=match (List.range n).find? p with
 | some i=>(i:Int)
 | none=> -1
theorem L8 {n i:Nat} {p:Nat→Bool} (hi:i<n) (h:p i=true) (hb: ∀k,k<i→p k=false):MM n p=i:=by
 have:(List.range n).find? p=some i:=List.find?_range_eq_some.2 ⟨h,List.mem_range.2 hi,fun j hj=>by rw [hb j hj];rfl⟩
 rw [MM,this]
theorem PT {n:Nat} {p:Nat→Bool} (hb: ∀k,k<n→p k=false):MM n p= -1:=by
 have:(List.range n).find? p=none:=List.find?_range_eq_none.2 fun j hj=>by rw [hb j hj];rfl
 rw [MM,this]
theorem RP (n:Nat) (p:Nat→Bool):(MM n p= -1∧ ∀k,k<n→p k=false)∨ ∃i,i<n∧MM n p=(i:Int)∧p i=true∧ ∀k,k<i→p k=false:=by
 cases h:(List.range n).find? p with
 | none=>exact .inl ⟨by rw [MM,h],fun k hk=>by have:=List.find?_range_eq_none.1 h k hk;simpa using this⟩
 | some i=>
   obtain ⟨h1,h2,h3⟩:=List.find?_range_eq_some.1 h
   exact .inr ⟨i,List.mem_range.1 h2,by rw [MM,h],h1,fun k hk=>by have:=h3 k hk;simpa using this⟩
def H6 (os:List AV) (i:Nat):Bool:= !(ob os i).live&&decide ((ob os i).gen<999)
def CC (os:List AV):Int:=MM os.length (H6 os)
def IM (ws:List Wk):Int:=MM ws.length fun i=> !(wk ws i).used
theorem TN {os:List AV} {b c d:List T} {K:J2} (hol:os.length=8) (h:K [I (CC os)] []):cl2 ⟨Try.prog,w0⟩ 75 EP.sg [] [tR tO os,b,c,d] K:=by
 refine EP.cl2 ?_
 unfold EP.txt
 simp only [AG,AQ,AP,AN,AI,AD,AE,AL,AO,AK,AM,AJ,AR,AH,BC,BI,BF,BH,BJ,BG,BD,AZ,A4,A6,A8,A7,A5]
 refine BK (fun i=>[iv os.length,iv i]) (fun _=>[]) os.length (fun i=> ∀k,k<i→H6 os k=false) rfl rfl (fun k hk=>by omega) (fun R i hi hP hR=> ?_)
 simp only [AG,AQ,AP,AN,AI,AD,AE,AL,AO,AK,AM,AJ,AR,AH,BC,BI,BF,BH,BJ,BG,BD,AZ,A4,A6,A8,A7,A5]
 refine AY (AW (fun hlt=> ?_) fun hge=> ?_)
 ·have hlt:i<os.length:=by omega
  refine AT hlt (MH hlt ?_)
  simp only [gK,fW]
  have no:H6 os i=false→R [iv os.length,iv (i+1)] []:=fun hn=>hR hlt fun k hk=>(Nat.lt_succ_iff_lt_or_eq.1 hk).elim (hP k) fun he=>he ▸ hn
  have yes:H6 os i=true→K [iv i] []:=fun hy=>by unfold CC at h;rw [L8 hlt hy hP] at h;exact h
  cases hv:(ob os i).live with
  | false=>
    repeat' (first | refine BM ?_ | refine N6 ?_ | refine G5 (by first | with_reducible assumption | omega) ?_ | refine CX (by first | with_reducible assumption | omega) rfl ?_ | refine U2 rfl ?_ | refine AY ?_ | refine BB (by omega) ?_ | refine AW (fun _=> ?_) (fun _=> ?_) | refine B5 ?_)
    ·exact yes (by simp [H6,hv];omega)
    ·exact no (by simp [H6,hv];omega)
  | true=>
    repeat' (first | refine BM ?_ | refine KX ?_ | refine G5 (by first | with_reducible assumption | omega) ?_ | refine CX (by first | with_reducible assumption | omega) rfl ?_ | refine Q4 rfl ?_ | refine BX ?_ | refine AY ?_ | refine BB (by omega) ?_ | refine B5 ?_)
    all_goals exact no (by simp [H6,hv])
 ·have:i=os.length:=by omega
  subst this
  unfold CC at h
  rw [PT hP] at h;exact h
theorem TS {os:List AV} {b c d:List T} {K:J2} (hol:os.length=8) (h:K [I (CC os)] []):cl2 ⟨Try.prog,w0⟩ 152 EY.sg [] [tR tO os,b,c,d] K:=by
 refine EY.cl2 ?_
 unfold EY.txt
 simp only [AG,AQ,AP,AN,AI,AD,AE,AL,AO,AK,AM,AJ,AR,AH,BC,BI,BF,BH,BJ,BG,BD,AZ,A4,A6,A8,A7,A5]
 refine BK (fun i=>[iv i]) (fun _=>[]) os.length (fun i=> ∀k,k<i→H6 os k=false) rfl rfl (fun k hk=>by omega) (fun R i hi hP hR=> ?_)
 simp only [AG,AQ,AP,AN,AI,AD,AE,AL,AO,AK,AM,AJ,AR,AH,BC,BI,BF,BH,BJ,BG,BD,AZ,A4,A6,A8,A7,A5]
 refine AY (BM (JB (fun hlt=> ?_) fun hge=> ?_))
 ·have hlt':i<os.length:=by omega
  refine AY (CX hlt rfl (C8 (by omega) ?_))
  have no:H6 os i=false→R [iv (i+1)] []:=fun hn=>hR hlt' fun k hk=>(Nat.lt_succ_iff_lt_or_eq.1 hk).elim (hP k) fun he=>he ▸ hn
  have yes:H6 os i=true→K [iv i] []:=fun hy=>by unfold CC at h;rw [L8 hlt' hy hP] at h;exact h
  refine AT hlt' ?_
  cases hv:(ob os i).live with
  | false=>
    refine KC (v:= .bool false) hlt' (by simp [tO,hv]) (B5 ?_)
    repeat' (first | refine AT hlt' ?_ | refine GU (v:=I (ob os i).gen) hlt' (by decide) rfl ?_ | refine BM ?_ | refine N6 ?_ | refine U2 rfl ?_ | refine AY ?_ | refine BB (by omega) ?_ | refine AW (fun _=> ?_) (fun _=> ?_))
    ·exact yes (by simp [H6,hv];omega)
    ·exact no (by simp [H6,hv];omega)
  | true=>
    refine KC (v:= .bool true) hlt' (by simp [tO,hv]) (B5 ?_)
    repeat' (first | refine BM ?_ | refine KX ?_ | refine Q4 rfl ?_ | refine BX ?_ | refine BB (by omega) ?_)
    all_goals exact no (by simp [H6,hv])
 ·refine C4 hge rfl (BX ?_)
  have:i=os.length:=by omega
  subst this
  unfold CC at h
  rw [PT hP] at h;exact h
theorem TO {ws:List Wk} {K:J2} (hol:ws.length=8) (h:K [I (IM ws)] []):cl2 ⟨Try.prog,w0⟩ 165 ER.sg [] [tR tW ws] K:=by
 refine ER.cl2 ?_
 unfold ER.txt
 simp only [AG,AQ,AP,AN,AI,AD,AE,AL,AO,AK,AM,AJ,AR,AH,BC,BI,BF,BH,BJ,BG,BD,AZ,A4,A6,A8,A7,A5]
 refine BK (fun i=>[iv ws.length,iv i]) (fun _=>[]) ws.length (fun i=> ∀k,k<i→(!(wk ws k).used)=false) rfl rfl (fun k hk=>by omega) (fun R i hi hP hR=> ?_)
 simp only [AG,AQ,AP,AN,AI,AD,AE,AL,AO,AK,AM,AJ,AR,AH,BC,BI,BF,BH,BJ,BG,BD,AZ,A4,A6,A8,A7,A5]
 refine AY (AW (fun hlt=> ?_) fun hge=> ?_)
 ·have hlt:i<ws.length:=by omega
  refine AT hlt (dH hlt ?_)
  simp only [qF]
  cases hv:(wk ws i).used with
  | false=>
    refine B5 (BZ ?_)
    unfold IM at h
    rw [L8 hlt (by rw [hv];rfl) hP] at h;exact h
  | true=>
    refine B5 (BX (BB (by omega) (hR hlt fun k hk=> ?_)))
    rcases Nat.lt_succ_iff_lt_or_eq.1 hk with h3 | rfl
    ·exact hP k h3
    ·rw [hv];rfl
 ·have:i=ws.length:=by omega
  subst this
  unfold IM at h
  rw [PT hP] at h;exact h
theorem B6 {n:Int} {K:J2} (h:K [I n,I 0] [[]]):cl2 ⟨Try.prog,w0⟩ 107 BU.sg [I n] [] K:=BU.cl2 h
def JI (g s:Int):AV:=⟨true,g,s,1,0,1,OJ,false⟩
def GW (os:List AV) (ss:List ByteArray) (s:ByteArray):List AV×List ByteArray×An:=
 if ¬(1≤(s.size:Int)∧(s.size:Int)≤8) then (os,ss,⟨2,0,[]⟩)
 else if CC os<0 then (os,ss,⟨3,0,[]⟩)
 else if at_ ss s<0∧6≤ss.length then (os,ss,⟨6,0,[]⟩)
 else (os.set (CC os).toNat (JI (w64 ((ob os (CC os).toNat).gen+1)) (if at_ ss s<0 then ss.length else at_ ss s)),(if at_ ss s<0 then ss++[s] else ss),⟨0,CL (CC os) (w64 ((ob os (CC os).toNat).gen+1)),[]⟩)
theorem L6 {os:List AV} (h: ¬CC os<0):(CC os).toNat<os.length∧CC os=((CC os).toNat:Int)∧H6 os (CC os).toNat=true:=by
 rcases RP os.length (H6 os) with ⟨h1,_⟩ | ⟨i,h1,h2,h3,_⟩
 ·unfold CC at h;omega
 ·have e:CC os=i:=h2
  have e2:(CC os).toNat=i:=by omega
  rw [e2];exact ⟨h1,e,h3⟩
theorem ZA {os:List AV} {b c:List T} {ss:List ByteArray} {s:ByteArray} {K:J2} (hol:os.length=8) (hsl:ss.length≤6) (h:K [I (GW os ss s).2.2.code,I (GW os ss s).2.2.val] [tI (GW os ss s).2.2.freed,tR tO (GW os ss s).1,tS (GW os ss s).2.1]):cl2 ⟨Try.prog,w0⟩ 144 DK.sg [.string s] [tR tO os,b,c,tS ss] K:=by
 refine DK.cl2 ?_
 unfold DK.txt
 refine TN hol (QF (by omega) (BQ ?_))
 simp only [AG,AQ,AP,AN,AI,AD,AE,AL,AO,AK,AM,AJ,AR,AH,BC,BI,BF,BH,BJ,BG,BD,AZ,A4,A6,A8,A7,A5]
 unfold GW at h
 refine UE (GF (DH (AW (fun hb=> ?_) fun hb=> ?_)))
 ·rw [if_pos hb] at h
  exact B6 h
 rw [if_neg hb] at h
 refine AY (AW (fun hf=> ?_) fun hf=> ?_)
 ·rw [if_pos hf] at h
  exact B6 h
 rw [if_neg hf] at h
 obtain ⟨f1,f2,f3⟩:=L6 hf
 refine AY ?_
 by_cases ha:at_ ss s<0
 ·by_cases h6:6≤ss.length
  ·rw [if_pos ⟨ha,h6⟩] at h
   repeat' (first | exact B6 h | refine BM ?_ | refine G5 (by first | with_reducible assumption | omega) ?_ | refine CX (by first | with_reducible assumption | omega) rfl ?_ | refine C8 (by first | with_reducible assumption | omega) ?_ | refine GA ?_)
   all_goals omega
  ·rw [if_neg (by omega),if_pos ha,if_pos ha] at h
   repeat' (first | refine BM ?_ | refine G5 (by first | with_reducible assumption | omega) ?_ | refine CX (by first | with_reducible assumption | omega) rfl ?_ | refine C8 (by first | with_reducible assumption | omega) ?_ | refine EZ (by first | with_reducible assumption | omega) ?_ | refine AY ?_ | refine GA ?_ | refine F8 ?_ | refine O5 (by omega) (by omega) ?_ | refine GU (by omega) (by decide) rfl ?_ | refine EJ (by first | exact L4 _ | exact ZB _ | exact Z0 _ | exact nV _ | rfl) (by omega) ?_)
   exact LV (y:=JI (w64 ((ob os (CC os).toNat).gen+1)) ss.length) (by omega) rfl (JA (by rw [←fB] at h;exact h))
 ·rw [if_neg (by omega),if_neg ha,if_neg ha] at h
  repeat' (first | refine BM ?_ | refine KY (by first | with_reducible assumption | omega) ?_ | refine C4 (by first | with_reducible assumption | omega) rfl ?_ | refine BX ?_ | refine EZ (by first | with_reducible assumption | omega) ?_ | refine AY ?_ | refine F8 ?_ | refine O5 (by omega) (by omega) ?_ | refine GU (by omega) (by decide) rfl ?_)
  exact LV (y:=JI (w64 ((ob os (CC os).toNat).gen+1)) (at_ ss s)) (by omega) rfl (JA h)
theorem oR {l:List ByteArray} {x s:ByteArray} (h:x∉l):at_ (l++[x]) s=if x=s then (l.length:Int) else at_ l s:=by
 unfold at_
 by_cases hs:s∈l
 ·rw [if_pos (List.mem_append_left _ hs),if_pos hs,List.idxOf_append,if_pos hs,if_neg (show ¬x=s from fun he=>h (he ▸ hs))]
 ·by_cases hx:x=s
  ·rw [if_pos (by simp [hx]),if_pos hx,List.idxOf_append,if_neg hs]
   simp [hx]
  ·rw [if_neg (by simp [hs,Ne.symm hx]),if_neg hx,if_neg hs]
theorem VD {os:List AV} {b c:List T} {ss:List ByteArray} {s:ByteArray} {k1 k2 k3 k4:Int} {K:J2} (hol:os.length=8) (hss:KD ss) (h:K [I (GW os ss s).2.2.code,I (GW os ss s).2.2.val] [tR tO (GW os ss s).1,tS (GW os ss s).2.1,tI (GW os ss s).2.2.freed]):cl2 ⟨Try.prog,w0⟩ 123 FY.sg [I k1,I k2,I k3,I k4, .string s] [tR tO os,b,c,tS ss] K:=by
 have hsl:=hss.len
 refine FY.cl2 ?_
 unfold FY.txt
 unfold GW at h
 refine UE (DS (DH (AW (fun hb=> ?_) fun hb=> ?_)))
 ·rw [if_pos hb] at h
  exact h
 rw [if_neg hb] at h
 refine TS hol (AY (AW (fun hf=> ?_) fun hf=> ?_))
 ·rw [if_pos hf] at h
  exact h
 rw [if_neg hf] at h
 obtain ⟨f1,f2,f3⟩:=L6 hf
 refine BK (fun i=>[I (CC os),I (at_ (ss.take i) s),iv i,I k1,I k2,I k3,I k4, .string s,I 0,I 0]) (fun _=>[tR tO os,tS ss]) ss.length (fun i=>True) rfl rfl trivial (fun R i hi hP hR=> ?_)
 simp only [AG,AQ,AP,AN,AI,AD,AE,AL,AO,AK,AM,AJ,AR,AH,BC,BI,BF,BH,BJ,BG,BD,AZ,A4,A6,A8,A7,A5]
 simp only [BD,rG,rZ,rQ]
 refine AY (AW (fun hlt=> ?_) fun hge=> ?_)
 ·have hlt:i<ss.length:=by omega
  replace hR:=hR hlt trivial
  have hone:=hss.one i hlt
  rw [List.take_succ_eq_append_getElem hlt,SD hlt,oR hone] at hR
  refine BQ (AT hlt (ldS hlt (bA (AW (fun he=> ?_) fun he=> ?_))))
  ·rw [if_pos he,List.length_take,Nat.min_eq_left hi] at hR
   exact BB (by omega) hR
  ·rw [if_neg he] at hR
   exact BB (by omega) hR
 ·have:i=ss.length:=by omega
  subst this
  rw [List.take_length]
  refine AY ?_
  by_cases ha:at_ ss s<0
  ·by_cases h6:6≤ss.length
   ·rw [if_pos ⟨ha,h6⟩] at h
    repeat' (first | exact h | refine BM ?_ | refine G5 (by first | with_reducible assumption | omega) ?_ | refine CX (by first | with_reducible assumption | omega) rfl ?_ | refine C8 (by first | with_reducible assumption | omega) ?_ | refine GA ?_)
    all_goals omega
   ·rw [if_neg (by omega),if_pos ha,if_pos ha] at h
    refine BM (BM (BM (G5 ha (K6 (CX ha rfl (EZ (by omega) (BQ (AY (C8 ha (EJ rfl (by omega) ?_))))))))))
    repeat' (first | refine IV ?_ | refine F8 ?_ | refine O5 (by omega) (by omega) ?_ | refine GU (by omega) (by decide) rfl ?_ | simp only [AG,AQ,AP,AN,AI,AD,AE,AL,AO,AK,AM,AJ,AR,AH,BC,BI,BF,BH,BJ,BG,BD,AZ,A4,A6,A8,A7,A5])
    rw [←fB] at h
    exact LV (y:=JI (w64 ((ob os (CC os).toNat).gen+1)) ss.length) (by omega) rfl (I8 h)
  ·rw [if_neg (by omega),if_neg ha,if_neg ha] at h
   refine BM (BM (BM (KY ha (C4 ha rfl (BX (BQ (AY (EZ (by omega) ?_))))))))
   repeat' (first | refine IV ?_ | refine F8 ?_ | refine O5 (by omega) (by omega) ?_ | refine GU (by omega) (by decide) rfl ?_ | simp only [AG,AQ,AP,AN,AI,AD,AE,AL,AO,AK,AM,AJ,AR,AH,BC,BI,BF,BH,BJ,BG,BD,AZ,A4,A6,A8,A7,A5])
   exact LV (y:=JI (w64 ((ob os (CC os).toNat).gen+1)) (at_ ss s)) (by omega) rfl (I8 h)
def O7 (r:List AV×List Int×List Int):List AV×List Int×An:=(r.1,r.2.1,⟨0,0,r.2.2⟩)
def GO (os:List AV) (buf:List Int) (kind id:Int):List AV×List Int×An:=
 if AB os id<0 then (os,buf,⟨1,0,[]⟩) else
 if kind=2 then
  if (ob os (AB os id).toNat).holds=20 then (os,buf,⟨4,0,[]⟩) else (EH (os.set (AB os id).toNat {ob os (AB os id).toNat with holds:=(ob os (AB os id).toNat).holds+1}) id,buf,⟨0,0,[]⟩)
 else if kind=5 then
  if (ob os (AB os id).toNat).roots=20 then (os,buf,⟨4,0,[]⟩) else (EH (os.set (AB os id).toNat {ob os (AB os id).toNat with roots:=(ob os (AB os id).toNat).roots+1}) id,buf,⟨0,0,[]⟩)
 else if kind=3 then
  if (ob os (AB os id).toNat).holds=0 then (os,buf,⟨5,0,[]⟩) else O7 (FK (os.set (AB os id).toNat {ob os (AB os id).toNat with holds:=(ob os (AB os id).toNat).holds-1}) buf [id])
 else
  if (ob os (AB os id).toNat).roots=0 then (os,buf,⟨5,0,[]⟩) else O7 (FK (os.set (AB os id).toNat {ob os (AB os id).toNat with roots:=(ob os (AB os id).toNat).roots-1}) buf [id])
theorem stH {os:List AV} {k:Nat} {v:Int} {K:List T→Prop} (hk:k<os.length) (h:K (tR tO (os.set k {ob os k with holds:=v}))):stc (tR tO os) [] (AA (iv (AA (iv k)*8+3))) (I v) K:=by
 rw [A9 (AA (iv k)*8+3), ←DN hk] at*;exact XW hk h
theorem stR {os:List AV} {k:Nat} {v:Int} {K:List T→Prop} (hk:k<os.length) (h:K (tR tO (os.set k {ob os k with roots:=v}))):stc (tR tO os) [] (AA (iv (AA (iv k)*8+4))) (I v) K:=by
 rw [A9 (AA (iv k)*8+4), ←DN hk] at*;exact SL hk (by decide) rfl rfl h
theorem UL {os:List AV} {buf:List Int} {b d:List T} {kind id:Int} {K:J2} (hol:os.length=8) (hof: ∀o∈os,OF o) (hb:buf.length≤100) (hid:F64 id) (hkd:kind=2∨kind=3∨kind=5∨kind=6) (hr: ∀i,(0≤(ob os i).holds∧(ob os i).holds≤20)∧(0≤(ob os i).roots∧(ob os i).roots≤20)) (h:K [I (GO os buf kind id).2.2.code,I (GO os buf kind id).2.2.val] [tI (GO os buf kind id).2.2.freed,tR tO (GO os buf kind id).1,tI (GO os buf kind id).2.1]):cl2 ⟨Try.prog,w0⟩ 145 C2.sg [I kind,I id] [tR tO os,b,tI buf,d] K:=by
 refine C2.cl2 ?_
 unfold C2.txt
 simp only [AG,AQ,AP,AN,AI,AD,AE,AL,AO,AK,AM,AJ,AR,AH,BC,BI,BF,BH,BJ,BG,BD,AZ,A4,A6,A8,A7,A5]
 unfold GO at h
 refine CT hid (by omega) (AY (AW (fun hs=> ?_) fun hs=> ?_))
 ·rw [if_pos hs] at h
  exact B6 h
 rw [if_neg hs] at h
 have hkb:=BN (l:=os) (id:=id) (by omega)
 obtain ⟨k,hkk⟩: ∃k,(AB os id).toNat=k:=⟨_,rfl⟩
 have hkI:AB os id=(k:Int):=by omega
 rw [hkk] at h hkb
 have hkl:k<os.length:=by omega
 have hrk:=hr k
 have ho:=hof _ (H8 (l:=os) (i:=k) (by omega))
 obtain ⟨⟨r1,r2⟩,r3,r4⟩:=hrk
 rw [BC,hkI]
 refine AT (by omega) (BQ ?_)
 simp only [AG,AQ,AP,AN,AI,AD,AE,AL,AO,AK,AM,AJ,AR,AH,BC,BI,BF,BH,BJ,BG,BD,AZ,A4,A6,A8,A7,A5]
 rcases hkd with rfl | rfl | rfl | rfl
 ·simp only [if_true] at h
  repeat' (first | refine BM ?_ | refine JZ ?_ | refine QS ?_ | refine CX (by first | with_reducible assumption | omega) rfl ?_ | refine C4 (by first | with_reducible assumption | omega) rfl ?_ | refine BZ ?_ | refine BX ?_ | refine BO ?_ | refine ED ⟨by omega,by omega⟩ ?_ | refine GU (by omega) (by decide) rfl ?_ | refine AW (fun _=> ?_) (fun _=> ?_))
  ·rename_i h20
   rw [if_pos h20] at h
   exact B6 h
  ·rename_i h20
   rw [if_neg h20] at h
   exact stH hkl (O2 hid (by simpa using hol) h)
 ·simp only [if_neg (show ¬(3:Int)=2 by decide),if_neg (show ¬(3:Int)=5 by decide),if_true] at h
  repeat' (first | refine BM ?_ | refine JZ ?_ | refine C4 (by first | with_reducible assumption | omega) rfl ?_ | refine BX ?_ | refine BO ?_ | refine ED ⟨by omega,by omega⟩ ?_ | refine GU (by omega) (by decide) rfl ?_ | refine AW (fun _=> ?_) (fun _=> ?_))
  ·rename_i h20
   rw [if_pos h20] at h
   exact B6 h
  ·rename_i h20
   rw [if_neg h20] at h
   exact stH hkl (O1 (buf:=buf) (ids:=[id]) (by simpa using hol) (J9 hof ⟨ho.gen,ho.len,ho.fld⟩) (by omega) (by simp) (by simpa using hid) h)
 ·simp only [if_neg (show ¬(5:Int)=2 by decide),if_true] at h
  repeat' (first | refine BM ?_ | refine JZ ?_ | refine QS ?_ | refine CX (by first | with_reducible assumption | omega) rfl ?_ | refine C4 (by first | with_reducible assumption | omega) rfl ?_ | refine BZ ?_ | refine BO ?_ | refine ED ⟨by omega,by omega⟩ ?_ | refine AT (by omega) ?_ | refine GU (by omega) (by decide) rfl ?_ | refine AW (fun _=> ?_) (fun _=> ?_))
  ·rename_i h20
   rw [if_pos h20] at h
   exact B6 h
  ·rename_i h20
   rw [if_neg h20] at h
   exact stR hkl (O2 hid (by simpa using hol) h)
 ·simp only [if_neg (show ¬(6:Int)=2 by decide),if_neg (show ¬(6:Int)=5 by decide),if_neg (show ¬(6:Int)=3 by decide)] at h
  repeat' (first | refine BM ?_ | refine JZ ?_ | refine C4 (by first | with_reducible assumption | omega) rfl ?_ | refine BZ ?_ | refine BX ?_ | refine BO ?_ | refine ED ⟨by omega,by omega⟩ ?_ | refine AT (by omega) ?_ | refine GU (by omega) (by decide) rfl ?_ | refine AW (fun _=> ?_) (fun _=> ?_))
  ·rename_i h20
   rw [if_pos h20] at h
   exact B6 h
  ·rename_i h20
   rw [if_neg h20] at h
   exact stR hkl (O1 (buf:=buf) (ids:=[id]) (by simpa using hol) (J9 hof ⟨ho.gen,ho.len,ho.fld⟩) (by omega) (by simp) (by simpa using hid) h)
theorem tD {os:List AV} {k:Nat} {v:Int} {K:List T→Prop} (hk:k<os.length) (h:K (tR tO (os.set k {ob os k with holds:=v}))):stc (tR tO os) [] (AA (iv k)*8+3) (I v) K:=by
 rw [←DN hk] at h;exact XW hk h
theorem s5 {os:List AV} {k:Nat} {v:Int} {K:List T→Prop} (hk:k<os.length) (h:K (tR tO (os.set k {ob os k with roots:=v}))):stc (tR tO os) [] (AA (iv k)*8+4) (I v) K:=by
 rw [←DN hk] at h;exact SL hk (by decide) rfl rfl h
theorem St.set {h:Hp} {os:List AV} (st:St h) (hl:os.length=h.AU.length) (ho: ∀o∈os,OF o):St {h with AU:=os}:=⟨by have:=st.ol;simp only;omega,st.wl,st.sl,st.bl,ho,st.ss,st.wf,st.bf⟩
theorem WX {h:Hp} {kind id b c:Int} {s:ByteArray} {K:J2} (st:St h) (hid:F64 id) (hkd:kind=2∨kind=3∨kind=5∨kind=6) (hr: ∀i,(0≤(ob h.AU i).holds∧(ob h.AU i).holds≤20)∧(0≤(ob h.AU i).roots∧(ob h.AU i).roots≤20)) (hK:K [I (GO h.AU h.buffer kind id).2.2.code,I (GO h.AU h.buffer kind id).2.2.val] [tR tO (GO h.AU h.buffer kind id).1,tR tW h.B2,tI (GO h.AU h.buffer kind id).2.1,tS h.sites,tI (GO h.AU h.buffer kind id).2.2.freed]):cl2 ⟨Try.prog,w0⟩ 124 GG.sg [I kind,I id,I b,I c, .string s] (trees h) K:=by
 refine GG.cl2 ?_
 unfold GG.txt
 obtain ⟨os,ws,buf,ss⟩:=h
 have hol:os.length=8:=st.ol
 have hof: ∀o∈os,OF o:=st.of
 simp only at hr hK
 simp only [trees]
 simp only [AG,AQ,AP,AN,AI,AD,AE,AL,AO,AK,AM,AJ,AR,AH,BC,BI,BF,BH,BJ,BG,BD,AZ,A4,A6,A8,A7,A5]
 unfold GO at hK
 refine CF hid (by omega) (AY (AW (fun hs=> ?_) fun hs=> ?_))
 ·rw [if_pos hs] at hK
  exact hK
 rw [if_neg hs] at hK
 have hkb:=BN (l:=os) (id:=id) (by omega)
 obtain ⟨k,hkk⟩: ∃k,(AB os id).toNat=k:=⟨_,rfl⟩
 have hkI:AB os id=(k:Int):=by omega
 rw [hkk] at hK hkb
 have hkl:k<os.length:=by omega
 have hrk:=hr k
 have ho:=hof _ (H8 (l:=os) (i:=k) (by omega))
 obtain ⟨⟨r1,r2⟩,r3,r4⟩:=hrk
 rw [BC,hkI]
 refine AT (by omega) (MH hkl (BQ (BQ ?_)))
 simp only [gK,fW,qI,qJ,pU,kR,p9]
 have gn: ∀{os':List AV} {K:J2},os'.length=os.length→(∀o∈os',OF o)→K [] [tR tO (EH os' id),tR tW ws,tI buf,tS ss]→cl2 ⟨Try.prog,w0⟩ 153 FJ.sg [I id] [tR tO os',tR tW ws,tI buf,tS ss] K:=fun hl ho hk=>TJ (St.set st hl ho) hid hk
 have ls: ∀{os':List AV} {K:J2},os'.length=os.length→(∀o∈os',OF o)→K [] [tR tO (FK os' buf [id]).1,tR tW ws,tI (FK os' buf [id]).2.1,tS ss,tI (FK os' buf [id]).2.2]→cl2 ⟨Try.prog,w0⟩ 154 F6.sg [] [tR tO os',tR tW ws,tI buf,tS ss,tI [id]] K:=fun hl ho hk=>S8 (St.set st hl ho) (by simp) (by simpa using hid) hk
 rcases hkd with rfl | rfl | rfl | rfl
 ·simp only [if_true] at hK
  by_cases h20:(ob os k).holds=20
  ·rw [if_pos h20] at hK
   repeat' (first | refine BM ?_ | refine N6 ?_ | refine CX (by first | with_reducible assumption | omega) rfl ?_ | refine C8 (by first | with_reducible assumption | omega) ?_ | refine GA ?_ | refine BO ?_ | simp only [AG,AQ,AP,AN,AI,AD,AE,AL,AO,AK,AM,AJ,AR,AH,BC,BI,BF,BH,BJ,BG,BD,AZ,A4,A6,A8,A7,A5])
   exact hK
  ·rw [if_neg h20] at hK
   repeat' (first | refine BQ ?_ | refine BM ?_ | refine N6 ?_ | refine KX ?_ | refine CX (by first | with_reducible assumption | omega) rfl ?_ | refine C4 (by first | with_reducible assumption | omega) rfl ?_ | refine BZ ?_ | refine BX ?_ | refine EZ (by first | with_reducible assumption | omega) ?_ | refine GA ?_ | refine BO ?_ | refine ED ⟨by omega,by omega⟩ ?_ | refine AT (by omega) ?_ | simp only [AG,AQ,AP,AN,AI,AD,AE,AL,AO,AK,AM,AJ,AR,AH,BC,BI,BF,BH,BJ,BG,BD,AZ,A4,A6,A8,A7,A5])
   exact tD hkl (gn (by simp) (J9 hof ⟨ho.gen,ho.len,ho.fld⟩) hK)
 ·simp only [if_neg (show ¬(3:Int)=2 by decide),if_neg (show ¬(3:Int)=5 by decide),if_true] at hK
  by_cases h20:(ob os k).holds=0
  ·rw [if_pos h20] at hK
   repeat' (first | refine BQ ?_ | refine BM ?_ | refine N6 ?_ | refine KX ?_ | refine CX (by first | with_reducible assumption | omega) rfl ?_ | refine C4 (by first | with_reducible assumption | omega) rfl ?_ | refine BX ?_ | refine C8 (by first | with_reducible assumption | omega) ?_ | refine AY ?_ | refine BO ?_ | simp only [AG,AQ,AP,AN,AI,AD,AE,AL,AO,AK,AM,AJ,AR,AH,BC,BI,BF,BH,BJ,BG,BD,AZ,A4,A6,A8,A7,A5])
   exact hK
  ·rw [if_neg h20] at hK
   repeat' (first | refine BQ ?_ | refine BM ?_ | refine N6 ?_ | refine KX ?_ | refine CX (by first | with_reducible assumption | omega) rfl ?_ | refine C4 (by first | with_reducible assumption | omega) rfl ?_ | refine BZ ?_ | refine BX ?_ | refine EZ (by first | with_reducible assumption | omega) ?_ | refine AY ?_ | refine BO ?_ | refine ED ⟨by omega,by omega⟩ ?_ | refine AT (by omega) ?_ | simp only [AG,AQ,AP,AN,AI,AD,AE,AL,AO,AK,AM,AJ,AR,AH,BC,BI,BF,BH,BJ,BG,BD,AZ,A4,A6,A8,A7,A5])
   exact tD hkl (ls (by simp) (J9 hof ⟨ho.gen,ho.len,ho.fld⟩) hK)
 ·simp only [if_neg (show ¬(5:Int)=2 by decide),if_true] at hK
  by_cases h20:(ob os k).roots=20
  ·rw [if_pos h20] at hK
   repeat' (first | refine BM ?_ | refine N6 ?_ | refine KX ?_ | refine CX (by first | with_reducible assumption | omega) rfl ?_ | refine C4 (by first | with_reducible assumption | omega) rfl ?_ | refine BX ?_ | refine C8 (by first | with_reducible assumption | omega) ?_ | refine GA ?_ | refine BO ?_ | simp only [AG,AQ,AP,AN,AI,AD,AE,AL,AO,AK,AM,AJ,AR,AH,BC,BI,BF,BH,BJ,BG,BD,AZ,A4,A6,A8,A7,A5])
   exact hK
  ·rw [if_neg h20] at hK
   repeat' (first | refine BQ ?_ | refine BM ?_ | refine N6 ?_ | refine KX ?_ | refine CX (by first | with_reducible assumption | omega) rfl ?_ | refine C4 (by first | with_reducible assumption | omega) rfl ?_ | refine BZ ?_ | refine BX ?_ | refine EZ (by first | with_reducible assumption | omega) ?_ | refine GA ?_ | refine BO ?_ | refine ED ⟨by omega,by omega⟩ ?_ | refine AT (by omega) ?_ | simp only [AG,AQ,AP,AN,AI,AD,AE,AL,AO,AK,AM,AJ,AR,AH,BC,BI,BF,BH,BJ,BG,BD,AZ,A4,A6,A8,A7,A5])
   exact s5 hkl (gn (by simp) (J9 hof ⟨ho.gen,ho.len,ho.fld⟩) hK)
 ·simp only [if_neg (show ¬(6:Int)=2 by decide),if_neg (show ¬(6:Int)=5 by decide),if_neg (show ¬(6:Int)=3 by decide)] at hK
  by_cases h20:(ob os k).roots=0
  ·rw [if_pos h20] at hK
   repeat' (first | refine BQ ?_ | refine BM ?_ | refine N6 ?_ | refine KX ?_ | refine CX (by first | with_reducible assumption | omega) rfl ?_ | refine C4 (by first | with_reducible assumption | omega) rfl ?_ | refine BX ?_ | refine C8 (by first | with_reducible assumption | omega) ?_ | refine AY ?_ | refine BO ?_ | simp only [AG,AQ,AP,AN,AI,AD,AE,AL,AO,AK,AM,AJ,AR,AH,BC,BI,BF,BH,BJ,BG,BD,AZ,A4,A6,A8,A7,A5])
   exact hK
  ·rw [if_neg h20] at hK
   repeat' (first | refine BQ ?_ | refine BM ?_ | refine N6 ?_ | refine KX ?_ | refine CX (by first | with_reducible assumption | omega) rfl ?_ | refine C4 (by first | with_reducible assumption | omega) rfl ?_ | refine BX ?_ | refine EZ (by first | with_reducible assumption | omega) ?_ | refine AY ?_ | refine BO ?_ | refine ED ⟨by omega,by omega⟩ ?_ | refine AT (by omega) ?_ | simp only [AG,AQ,AP,AN,AI,AD,AE,AL,AO,AK,AM,AJ,AR,AH,BC,BI,BF,BH,BJ,BG,BD,AZ,A4,A6,A8,A7,A5])
   exact s5 hkl (ls (by simp) (J9 hof ⟨ho.gen,ho.len,ho.fld⟩) hK)
end Go.Proofs.Ytklmcfpgdfibnaa.P
namespace Go.Proofs.Ytklmcfpgdfibnaa.P
open Go Go.Proofs.Ytklmcfpgdfibnaa Go.Proofs.Ytklmcfpgdfibnaa.Eng
set_option linter.unusedVariables false
set_option maxHeartbeats 4000000
set_option linter.unusedVariables false
set_option linter.unusedSimpArgs false
attribute [local irreducible] prP gP gE gF AX ixW ldc ldg ldl stc stg scW mkW apW BL cl2 BS EB B8
variable {w0:World}
def HD (os:List AV) (buf:List Int) (a b c:Int):List AV×List Int×An:=
 if AB os a<0∨(c≠ -1∧AB os c<0) then (os,buf,⟨1,0,[]⟩) else
 if ¬(0≤b∧b≤2) then (os,buf,⟨2,0,[]⟩) else
 if gI (ob os (AB os a).toNat).field b.toNat= -1 then
  ((EH os c).set (AB os a).toNat {ob (EH os c) (AB os a).toNat with field:=(ob os (AB os a).toNat).field.set b.toNat c},buf,⟨0,0,[]⟩)
 else O7 (FK ((EH os c).set (AB os a).toNat {ob (EH os c) (AB os a).toNat with field:=(ob os (AB os a).toNat).field.set b.toNat c}) buf [gI (ob os (AB os a).toNat).field b.toNat])
theorem FR {l:List AV} {i k:Nat} {o:AV} (hk:k<l.length):ob (l.set k o) i=if i=k then o else ob l i:=by
 unfold ob
 by_cases h:i=k
 ·subst h
  rw [if_pos rfl,List.getD_eq_getElem?_getD,List.getElem?_set_self hk];rfl
 ·rw [if_neg h,List.getD_eq_getElem?_getD,List.getElem?_set_ne (Ne.symm h),List.getD_eq_getElem?_getD]
theorem WK {os:List AV} {id:Int} {i:Nat}:(ob (EH os id) i).live=(ob os i).live∧(ob (EH os id) i).gen=(ob os i).gen∧(ob (EH os id) i).site=(ob os i).site∧(ob (EH os id) i).holds=(ob os i).holds∧(ob (EH os id) i).roots=(ob os i).roots∧(ob (EH os id) i).field=(ob os i).field∧(ob (EH os id) i).purple=(ob os i).purple:=by
 unfold EH
 split
 ·exact ⟨rfl,rfl,rfl,rfl,rfl,rfl,rfl⟩
 ·have hk:=BN (l:=os) (id:=id) (by omega)
  rw [FR (by omega)]
  split
  ·rename_i h;subst h;exact ⟨rfl,rfl,rfl,rfl,rfl,rfl,rfl⟩
  ·exact ⟨rfl,rfl,rfl,rfl,rfl,rfl,rfl⟩
theorem stF {os:List AV} {k j:Nat} {v:Int} {K:List T→Prop} (hk:k<os.length) (hj:j<(ob os k).field.length) (h:K (tR tO (os.set k {ob os k with field:=(ob os k).field.set j v}))):stc (tR tO os) [AA (iv k)*8+6] (AA (iv j)*1) (I v) K:=by
 rw [←DN hk] at h hj;exact iT hk hj h
theorem OF.put {o:AV} {m:List Int} (h:OF o) (hl:m.length=3) (hf: ∀x∈m,F64 x):OF {o with field:=m}:=⟨h.gen,hl,hf⟩
theorem ZT {os:List AV} {buf:List Int} {b d:List T} {a0 a1 a2 a3:Int} {s:ByteArray} {K:J2} (hol:os.length=8) (hof: ∀o∈os,OF o) (hb:buf.length≤100) (h1:F64 a1) (h3:F64 a3) (h:K [I (HD os buf a1 a2 a3).2.2.code,I (HD os buf a1 a2 a3).2.2.val] [tI (HD os buf a1 a2 a3).2.2.freed,tR tO (HD os buf a1 a2 a3).1,tI (HD os buf a1 a2 a3).2.1]):cl2 ⟨Try.prog,w0⟩ 146 DL.sg [I a0,I a1,I a2,I a3, .string s] [tR tO os,b,tI buf,d] K:=by
 refine DL.cl2 ?_
 unfold DL.txt
 unfold HD at h
 refine CT h1 (by omega) ?_
 by_cases hs:AB os a1<0
 ·rw [if_pos (.inl hs)] at h
  repeat' (first | exact B6 h | refine BM ?_ | refine mI ?_ | refine SR (by first | with_reducible assumption | omega) ?_ | refine H7 (by first | with_reducible assumption | omega) ?_ | refine CX (by first | with_reducible assumption | omega) rfl ?_ | refine BZ ?_ | refine AY ?_)
 have hkb:=BN (l:=os) (id:=a1) (by omega)
 by_cases hc:a3≠ -1∧AB os a3<0
 ·obtain ⟨hc1,hc2⟩:=hc
  rw [if_pos (.inr ⟨hc1,hc2⟩)] at h
  repeat' (first | refine CT h3 (by omega) ?_ | exact B6 h | refine BM ?_ | refine OR ?_ | refine OM (by first | with_reducible assumption | omega) ?_ | refine G5 (by first | with_reducible assumption | omega) ?_ | refine F9 (by first | with_reducible assumption | omega) ?_ | refine CX (by first | with_reducible assumption | omega) rfl ?_ | refine C4 (by first | with_reducible assumption | omega) rfl ?_ | refine C8 (by first | with_reducible assumption | omega) ?_ | refine AY ?_ | refine CI ?_)
 rw [if_neg (by omega)] at h
 by_cases hb2: ¬(0≤a2∧a2≤2)
 ·rw [if_pos hb2] at h
  repeat' (first | refine CT h3 (by omega) ?_ | refine GF ?_ | exact B6 h | refine BM ?_ | refine OR ?_ | refine OM (by first | with_reducible assumption | omega) ?_ | refine G5 (by first | with_reducible assumption | omega) ?_ | refine KY (by first | with_reducible assumption | omega) ?_ | refine F9 (by first | with_reducible assumption | omega) ?_ | refine CX (by first | with_reducible assumption | omega) rfl ?_ | refine C4 (by first | with_reducible assumption | omega) rfl ?_ | refine BX ?_ | refine C8 (by first | with_reducible assumption | omega) ?_ | refine EZ (by first | with_reducible assumption | omega) ?_ | refine AY ?_ | refine CI ?_ | refine DH ?_ | refine JB (fun _=> ?_) (fun _=> ?_))
 rw [if_neg hb2] at h
 obtain ⟨k,hkk⟩: ∃k,(AB os a1).toNat=k:=⟨_,rfl⟩
 have hkI:AB os a1=(k:Int):=by omega
 rw [hkk] at h hkb
 obtain ⟨j,rfl⟩: ∃j:Nat,a2=j:=⟨a2.toNat,by omega⟩
 rw [Int.toNat_natCast] at h
 have hkl:k<os.length:=by omega
 have ho:=hof _ (H8 (l:=os) (i:=k) (by omega))
 obtain ⟨_,_,_,_,_,gf,_⟩:=WK (os:=os) (id:=a3) (i:=k)
 have gl:=SY os a3
 have gof:=aR (id:=a3) hof
 have jl:j<(ob os k).field.length:=by rw [ho.len];omega
 rw [hkI]
 repeat' (first | refine CT h3 (by omega) ?_ | refine GF ?_ | refine O2 h3 hol ?_ | refine BM ?_ | refine OR ?_ | refine UT ?_ | refine JZ ?_ | refine G5 (by first | with_reducible assumption | omega) ?_ | refine KY (by first | with_reducible assumption | omega) ?_ | refine CX (by first | with_reducible assumption | omega) rfl ?_ | refine C4 (by first | with_reducible assumption | omega) rfl ?_ | refine BX ?_ | refine EZ (by first | with_reducible assumption | omega) ?_ | refine AY ?_ | refine CI ?_ | refine DH ?_ | refine AT (by omega) ?_ | refine YY (by omega) ?_ | refine JB (fun _=> ?_) (fun _=> ?_) | simp only [AG,AQ,AP,AN,AI,AD,AE,AL,AO,AK,AM,AJ,AR,AH,BC,BI,BF,BH,BJ,BG,BD,AZ,A4,A6,A8,A7,A5])
 all_goals
  refine AT (by rw [G6 (by omega),AD,gf];exact jl) (LB (by omega) (by rw [gf];exact jl) (AT (by omega) ?_))
  rw [gf]
  refine OI (f:=tO) (i:=k) (by omega) (by decide) rfl ?_
  refine AT (by rw [G6 (by omega),AD,gf];exact jl) (stF (by omega) (by rw [gf];exact jl) ?_)
  rw [gf]
  refine BO (AW (fun he=> ?_) fun he=> ?_)
  ·rw [if_pos he] at h;exact h
  ·rw [if_neg he] at h
   exact O1 (buf:=buf) (ids:=[gI (ob os k).field j]) (by simpa using gl.trans hol) (J9 gof (OF.put (gof _ (H8 (by omega))) (by rw [List.length_set];exact ho.len) fun x hx=>(List.mem_or_eq_of_mem_set hx).elim (ho.fld x) fun he=>he ▸ h3)) (by omega) (by simp) (by simpa using ho.fld _ (DQ jl)) h
theorem WE {h:Hp} {a0 a1 a2 a3:Int} {s:ByteArray} {K:J2} (st:St h) (h1:F64 a1) (h3:F64 a3) (hfd: ∀i, ∀f∈(ob h.AU i).field,f= -1∨0≤f) (hK:K [I (HD h.AU h.buffer a1 a2 a3).2.2.code,I (HD h.AU h.buffer a1 a2 a3).2.2.val] [tR tO (HD h.AU h.buffer a1 a2 a3).1,tR tW h.B2,tI (HD h.AU h.buffer a1 a2 a3).2.1,tS h.sites,tI (HD h.AU h.buffer a1 a2 a3).2.2.freed]):cl2 ⟨Try.prog,w0⟩ 125 FM.sg [I a0,I a1,I a2,I a3, .string s] (trees h) K:=by
 refine FM.cl2 ?_
 unfold FM.txt
 obtain ⟨os,ws,buf,ss⟩:=h
 have hol:os.length=8:=st.ol
 have hof: ∀o∈os,OF o:=st.of
 simp only at hK hfd
 simp only [trees]
 unfold HD at hK
 have gn: ∀{K:J2},K [] [tR tO (EH os a3),tR tW ws,tI buf,tS ss]→cl2 ⟨Try.prog,w0⟩ 153 FJ.sg [I a3] [tR tO os,tR tW ws,tI buf,tS ss] K:=fun hk=>TJ st h3 hk
 have ls: ∀{os':List AV} {x:Int} {K:J2},os'.length=os.length→(∀o∈os',OF o)→F64 x→K [] [tR tO (FK os' buf [x]).1,tR tW ws,tI (FK os' buf [x]).2.1,tS ss,tI (FK os' buf [x]).2.2]→cl2 ⟨Try.prog,w0⟩ 154 F6.sg [] [tR tO os',tR tW ws,tI buf,tS ss,tI [x]] K:=fun hl ho hx hk=>S8 (St.set st hl ho) (by simp) (by simpa using hx) hk
 refine CF h1 (by omega) ?_
 by_cases hs:AB os a1<0
 ·rw [if_pos (.inl hs)] at hK
  repeat' (first | exact hK | refine BM ?_ | refine mI ?_ | refine SR (by first | with_reducible assumption | omega) ?_ | refine H7 (by first | with_reducible assumption | omega) ?_ | refine CX (by first | with_reducible assumption | omega) rfl ?_ | refine BZ ?_ | refine AY ?_)
 have hkb:=BN (l:=os) (id:=a1) (by omega)
 by_cases hc:a3≠ -1∧AB os a3<0
 ·obtain ⟨hc1,hc2⟩:=hc
  rw [if_pos (.inr ⟨hc1,hc2⟩)] at hK
  repeat' (first | refine CF h3 (by omega) ?_ | exact hK | refine BM ?_ | refine OR ?_ | refine OM (by first | with_reducible assumption | omega) ?_ | refine G5 (by first | with_reducible assumption | omega) ?_ | refine F9 (by first | with_reducible assumption | omega) ?_ | refine CX (by first | with_reducible assumption | omega) rfl ?_ | refine C4 (by first | with_reducible assumption | omega) rfl ?_ | refine C8 (by first | with_reducible assumption | omega) ?_ | refine AY ?_ | refine CI ?_)
 rw [if_neg (by omega)] at hK
 by_cases hb2: ¬(0≤a2∧a2≤2)
 ·rw [if_pos hb2] at hK
  repeat' (first | refine CF h3 (by omega) ?_ | refine DS ?_ | exact hK | refine BM ?_ | refine OR ?_ | refine OM (by first | with_reducible assumption | omega) ?_ | refine G5 (by first | with_reducible assumption | omega) ?_ | refine KY (by first | with_reducible assumption | omega) ?_ | refine F9 (by first | with_reducible assumption | omega) ?_ | refine CX (by first | with_reducible assumption | omega) rfl ?_ | refine C4 (by first | with_reducible assumption | omega) rfl ?_ | refine BX ?_ | refine C8 (by first | with_reducible assumption | omega) ?_ | refine EZ (by first | with_reducible assumption | omega) ?_ | refine AY ?_ | refine CI ?_ | refine DH ?_ | refine JB (fun _=> ?_) (fun _=> ?_))
 rw [if_neg hb2] at hK
 obtain ⟨k,hkk⟩: ∃k,(AB os a1).toNat=k:=⟨_,rfl⟩
 have hkI:AB os a1=(k:Int):=by omega
 rw [hkk] at hK hkb
 obtain ⟨j,rfl⟩: ∃j:Nat,a2=j:=⟨a2.toNat,by omega⟩
 rw [Int.toNat_natCast] at hK
 have hkl:k<os.length:=by omega
 have ho:=hof _ (H8 (l:=os) (i:=k) (by omega))
 obtain ⟨_,_,_,_,_,gf,_⟩:=WK (os:=os) (id:=a3) (i:=k)
 have gl:=SY os a3
 have gof:=aR (id:=a3) hof
 have jl:j<(ob os k).field.length:=by rw [ho.len];omega
 have hold:=hfd k _ (DQ jl)
 rw [hkI]
 repeat' (first | refine CF h3 (by omega) ?_ | refine DS ?_ | refine BM ?_ | refine OR ?_ | refine UT ?_ | refine JZ ?_ | refine G5 (by first | with_reducible assumption | omega) ?_ | refine KY (by first | with_reducible assumption | omega) ?_ | refine CX (by first | with_reducible assumption | omega) rfl ?_ | refine C4 (by first | with_reducible assumption | omega) rfl ?_ | refine BX ?_ | refine EZ (by first | with_reducible assumption | omega) ?_ | refine AY ?_ | refine CI ?_ | refine DH ?_ | refine AT (by omega) ?_ | refine YY (by omega) ?_ | refine JB (fun _=> ?_) (fun _=> ?_) | simp only [AG,AQ,AP,AN,AI,AD,AE,AL,AO,AK,AM,AJ,AR,AH,BC,BI,BF,BH,BJ,BG,BD,AZ,A4,A6,A8,A7,A5])
 all_goals
  refine AT (by rw [G6 (by omega),AD];exact jl) (LB (by omega) jl (BQ ?_))
  simp only [AG,AQ,AP,AN,AI,AD,AE,AL,AO,AK,AM,AJ,AR,AH,BC,BI,BF,BH,BJ,BG,BD,AZ,A4,A6,A8,A7,A5]
  refine K6 (AW (fun hge=>gn ?_) fun hlt=> ?_)
  ·simp only [AG,AQ,AP,AN,AI,AD,AE,AL,AO,AK,AM,AJ,AR,AH,BC,BI,BF,BH,BJ,BG,BD,AZ,A4,A6,A8,A7,A5]
   refine AT (by omega) (OI (f:=tO) (i:=k) (by omega) (by decide) rfl ?_)
   refine AT (by rw [G6 (by omega),AD,gf];exact jl) (stF (by omega) (by rw [gf];exact jl) ?_)
   rw [gf]
   refine AY (AW (fun he=> ?_) fun he=> ?_)
   ·rw [if_pos (by omega)] at hK;exact hK
   ·rw [if_neg (by omega)] at hK
    exact ls (by simpa using gl) (J9 gof (OF.put (gof _ (H8 (by omega))) (by rw [List.length_set];exact ho.len) fun x hx=>(List.mem_or_eq_of_mem_set hx).elim (ho.fld x) fun he=>he ▸ h3)) (ho.fld _ (DQ jl)) hK
  ·have e0:EH os a3=os:=by unfold EH;rw [if_pos];rw [G8 (by omega)];decide
   rw [e0] at hK
   refine AT (by omega) (OI (f:=tO) (i:=k) (by omega) (by decide) rfl ?_)
   refine AT (by rw [G6 (by omega),AD];exact jl) (stF (by omega) jl ?_)
   refine AY (AW (fun he=> ?_) fun he=> ?_)
   ·rw [if_pos (by omega)] at hK;exact hK
   ·rw [if_neg (by omega)] at hK
    exact ls (by simp) (J9 hof (OF.put ho (by rw [List.length_set];exact ho.len) fun x hx=>(List.mem_or_eq_of_mem_set hx).elim (ho.fld x) fun he=>he ▸ h3)) (ho.fld _ (DQ jl)) hK
def KZ (os:List AV) (ws:List Wk) (id:Int):List Wk×An:=
 if AB os id<0 then (ws,⟨1,0,[]⟩) else if IM ws<0 then (ws,⟨3,0,[]⟩) else (ws.set (IM ws).toNat ⟨true,id⟩,⟨0,IM ws,[]⟩)
def GX (os:List AV) (ws:List Wk) (kind k:Int):List Wk×An:=
 if ¬(0≤k∧k≤(ws.length:Int)-1) then (ws,⟨2,0,[]⟩) else
 if (wk ws k.toNat).used=false then (ws,⟨2,0,[]⟩) else
 if kind=9 then (ws.set k.toNat ⟨false,0⟩,⟨0,0,[]⟩) else
 if AB os (wk ws k.toNat).target<0 then (ws,⟨0, -1,[]⟩) else (ws,⟨0,(wk ws k.toNat).target,[]⟩)
theorem W9 {ws:List Wk} (h: ¬IM ws<0):(IM ws).toNat<ws.length∧IM ws=((IM ws).toNat:Int)∧(wk ws (IM ws).toNat).used=false:=by
 rcases RP ws.length (fun i=> !(wk ws i).used) with ⟨h1,_⟩ | ⟨i,h1,h2,h3,_⟩
 ·unfold IM at h;omega
 ·have e:IM ws=i:=h2
  have e2:(IM ws).toNat=i:=by omega
  rw [e2];exact ⟨h1,e,by simpa using h3⟩
theorem bK {os:List AV} {ws:List Wk} {c d:List T} {id:Int} {K:J2} (hol:os.length=8) (hwl:ws.length=8) (hid:F64 id) (h:K [I (KZ os ws id).2.code,I (KZ os ws id).2.val] [tI (KZ os ws id).2.freed,tR tW (KZ os ws id).1]):cl2 ⟨Try.prog,w0⟩ 147 D5.sg [I id] [tR tO os,tR tW ws,c,d] K:=by
 refine D5.cl2 ?_
 unfold D5.txt
 unfold KZ at h
 simp only [AG,AQ,AP,AN,AI,AD,AE,AL,AO,AK,AM,AJ,AR,AH,BC,BI,BF,BH,BJ,BG,BD,AZ,A4,A6,A8,A7,A5]
 refine TO hwl (CT hid (by omega) (AY (AW (fun hs=> ?_) fun hs=> ?_)))
 ·rw [if_pos hs] at h;exact B6 h
 rw [if_neg hs] at h
 refine AY (AW (fun hf=> ?_) fun hf=> ?_)
 ·rw [if_pos hf] at h;exact B6 h
 rw [if_neg hf] at h
 obtain ⟨f1,f2,f3⟩:=W9 hf
 simp only [AG,AQ,AP,AN,AI,AD,AE,AL,AO,AK,AM,AJ,AR,AH,BC,BI,BF,BH,BJ,BG,BD,AZ,A4,A6,A8,A7,A5]
 rw [f2] at h ⊢
 rw [Int.toNat_natCast] at h
 exact AT f1 (LV (f:=tW) f1 (y:=⟨true,id⟩) rfl h)
theorem W0 {os:List AV} {ws:List Wk} {c d:List T} {kind k:Int} {K:J2} (hol:os.length=8) (hwl:ws.length=8) (hk:F64 k) (hwf: ∀w∈ws,F64 w.target) (h:K [I (GX os ws kind k).2.code,I (GX os ws kind k).2.val] [tI (GX os ws kind k).2.freed,tR tW (GX os ws kind k).1]):cl2 ⟨Try.prog,w0⟩ 148 DF.sg [I kind,I k] [tR tO os,tR tW ws,c,d] K:=by
 refine DF.cl2 ?_
 unfold DF.txt
 unfold GX at h
 simp only [AG,AQ,AP,AN,AI,AD,AE,AL,AO,AK,AM,AJ,AR,AH,BC,BI,BF,BH,BJ,BG,BD,AZ,A4,A6,A8,A7,A5]
 refine HV ⟨by omega,by omega⟩ (GF (DH ?_))
 by_cases hb: ¬(0≤k∧k≤(ws.length:Int)-1)
 ·rw [if_pos hb] at h
  repeat' (first | exact B6 h | refine BM ?_ | refine H7 (by first | with_reducible assumption | omega) ?_ | refine CX (by first | with_reducible assumption | omega) rfl ?_ | refine BZ ?_)
 rw [if_neg hb] at h
 obtain ⟨j,rfl⟩: ∃j:Nat,k=j:=⟨k.toNat,by omega⟩
 rw [Int.toNat_natCast] at h
 have jl:j<ws.length:=by omega
 have hw:=hwf _ (List.getElem_mem jl)
 rw [X9 jl] at hw
 cases hu:(wk ws j).used with
 | false=>
   rw [if_pos hu] at h
   repeat' (first | refine P3 (v:= .bool false) jl (by simp [tW,hu]) ?_ | exact B6 h | refine BM ?_ | refine F9 (by first | with_reducible assumption | omega) ?_ | refine C4 (by first | with_reducible assumption | omega) rfl ?_ | refine BZ ?_ | refine AT (by omega) ?_ | refine B5 ?_)
 | true=>
   rw [if_neg (by rw [hu];decide)] at h
   repeat' (first | refine P3 (v:= .bool true) jl (by simp [tW,hu]) ?_ | refine CT hw (by omega) ?_ | refine BM ?_ | refine F9 (by first | with_reducible assumption | omega) ?_ | refine C4 (by first | with_reducible assumption | omega) rfl ?_ | refine BX ?_ | refine AY ?_ | refine BO ?_ | refine AT (by omega) ?_ | refine lR (by omega) (by decide) rfl ?_ | refine AW (fun _=> ?_) (fun _=> ?_) | refine B5 ?_)
   ·rename_i hh
    rw [if_pos hh] at h
    exact LV (f:=tW) jl (y:=⟨false,0⟩) rfl h
   ·rename_i hh hs
    rw [if_neg hh,if_pos hs] at h
    exact h
   ·rename_i hh hs
    rw [if_neg hh,if_neg hs] at h
    exact h
theorem WS {os:List AV} {ws:List Wk} {cc d:List T} {kind k b c:Int} {s:ByteArray} {K:J2} (hol:os.length=8) (hwl:ws.length=8) (hk:F64 k) (hwf: ∀w∈ws,F64 w.target) (h7:kind=7→K [I (KZ os ws k).2.code,I (KZ os ws k).2.val] [tR tW (KZ os ws k).1,tI (KZ os ws k).2.freed]) (h:kind≠7→K [I (GX os ws kind k).2.code,I (GX os ws kind k).2.val] [tR tW (GX os ws kind k).1,tI (GX os ws kind k).2.freed]):cl2 ⟨Try.prog,w0⟩ 126 GI.sg [I kind,I k,I b,I c, .string s] [tR tO os,tR tW ws,cc,d] K:=by
 refine GI.cl2 ?_
 unfold GI.txt
 simp only [AG,AQ,AP,AN,AI,AD,AE,AL,AO,AK,AM,AJ,AR,AH,BC,BI,BF,BH,BJ,BG,BD,AZ,A4,A6,A8,A7,A5]
 refine BO (AW (fun he=> ?_) fun he=> ?_)
 ·replace h:=h7 he
  clear h7
  unfold KZ at h
  refine CF hk (by omega) (AY (AW (fun hs=> ?_) fun hs=> ?_))
  ·rw [if_pos hs] at h;exact h
  rw [if_neg hs] at h
  refine BK (fun i=>[iv i,I kind,I k,I b,I c, .string s,I 0,I 0]) (fun _=>[tR tW ws]) ws.length (fun i=> ∀j,j<i→(!(wk ws j).used)=false) rfl rfl (fun k hk=>by omega) (fun R i hi hP hR=> ?_)
  simp only [AG,AQ,AP,AN,AI,AD,AE,AL,AO,AK,AM,AJ,AR,AH,BC,BI,BF,BH,BJ,BG,BD,AZ,A4,A6,A8,A7,A5]
  refine AY (AW (fun hlt=> ?_) fun hge=> ?_)
  ·have hlt:i<ws.length:=by omega
   cases hv:(wk ws i).used with
   | false=>
     refine AT hlt (P3 (v:= .bool false) hlt (by simp [tW,hv]) (B5 (BZ (AT hlt ?_))))
     unfold IM at h
     rw [L8 hlt (by rw [hv];rfl) hP,if_neg (by omega),Int.toNat_natCast] at h
     exact LV (f:=tW) hlt (y:=⟨true,k⟩) rfl h
   | true=>
     refine AT hlt (P3 (v:= .bool true) hlt (by simp [tW,hv]) (B5 (BX (BB (by omega) (hR hlt fun k hk=> ?_)))))
     rcases Nat.lt_succ_iff_lt_or_eq.1 hk with h3 | rfl
     ·exact hP k h3
     ·rw [hv];rfl
  ·have:i=ws.length:=by omega
   subst this
   unfold IM at h
   rw [PT hP,if_pos (by decide)] at h;exact h
 ·replace h:=h he
  clear h7
  unfold GX at h
  refine HV ⟨by omega,by omega⟩ (DS (DH ?_))
  by_cases hb: ¬(0≤k∧k≤(ws.length:Int)-1)
  ·rw [if_pos hb] at h
   repeat' (first | exact h | refine BM ?_ | refine H7 (by first | with_reducible assumption | omega) ?_ | refine CX (by first | with_reducible assumption | omega) rfl ?_ | refine BZ ?_)
  rw [if_neg hb] at h
  obtain ⟨j,rfl⟩: ∃j:Nat,k=j:=⟨k.toNat,by omega⟩
  rw [Int.toNat_natCast] at h
  have jl:j<ws.length:=by omega
  have hw:=hwf _ (List.getElem_mem jl)
  rw [X9 jl] at hw
  cases hu:(wk ws j).used with
  | false=>
    rw [if_pos hu] at h
    repeat' (first | refine P3 (v:= .bool false) jl (by simp [tW,hu]) ?_ | exact h | refine BM ?_ | refine F9 (by first | with_reducible assumption | omega) ?_ | refine C4 (by first | with_reducible assumption | omega) rfl ?_ | refine BZ ?_ | refine AT (by omega) ?_ | refine B5 ?_)
  | true=>
    rw [if_neg (by rw [hu];decide)] at h
    repeat' (first | refine P3 (v:= .bool true) jl (by simp [tW,hu]) ?_ | refine CF hw (by omega) ?_ | refine BM ?_ | refine F9 (by first | with_reducible assumption | omega) ?_ | refine C4 (by first | with_reducible assumption | omega) rfl ?_ | refine BX ?_ | refine AY ?_ | refine BO ?_ | refine AT (by omega) ?_ | refine lR (by omega) (by decide) rfl ?_ | refine AW (fun _=> ?_) (fun _=> ?_) | refine B5 ?_)
    ·rename_i hh
     rw [if_pos hh] at h
     exact LV (f:=tW) jl (y:=⟨false,0⟩) rfl h
    ·rename_i hh hs
     rw [if_neg hh,if_pos hs] at h
     exact h
    ·rename_i hh hs
     rw [if_neg hh,if_neg hs] at h
     exact h
end Go.Proofs.Ytklmcfpgdfibnaa.P
namespace Go.Proofs.Ytklmcfpgdfibnaa.P
open Go Go.Proofs.Ytklmcfpgdfibnaa Go.Proofs.Ytklmcfpgdfibnaa.Eng
set_option linter.unusedVariables false
theorem kX (n:Int):w64 n=(n+9223372036854775808) % 18446744073709551616-9223372036854775808:=by
 simp only [w64,IntKind.wrap,IntKind.bits,IntKind.signed]
 simp
 split <;> omega
theorem MB (a b:Int):w64 (w64 a+b)=w64 (a+b):=by simp only [kX];omega
theorem hC (a:Int):F64 (w64 a):=by rw [kX];exact ⟨by omega,by omega⟩
def GN:Nat→(Nat→Int)→Int
 | 0,_=>0
 | n+1,f=>GN n f+f n
theorem KL {n:Nat} {f g:Nat→Int} (h: ∀k,k<n→f k=g k):GN n f=GN n g:=by
 induction n with
 | zero=>rfl
 | succ n ih=>simp only [GN];rw [ih fun k hk=>h k (by omega),h n (by omega)]
theorem SW {n k0:Nat} {f g:Nat→Int} (hk:k0<n) (h: ∀k,k<n→k≠k0→f k=g k):GN n g=GN n f+(g k0-f k0):=by
 induction n with
 | zero=>omega
 | succ n ih=>
   simp only [GN]
   by_cases he:k0=n
   ·subst he
    rw [KL (g:=g) fun k hk=>h k (by omega) (by omega)];omega
   ·rw [ih (by omega) fun k hk hne=>h k (by omega) hne,h n (by omega) (by omega)];omega
theorem jD {n:Nat} {f g:Nat→Int}:GN n (fun k=>f k+g k)=GN n f+GN n g:=by
 induction n with
 | zero=>rfl
 | succ n ih=>simp only [GN,ih];omega
theorem IY {n:Nat} {f:Nat→Int} (h: ∀k,k<n→f k=0):GN n f=0:=by
 induction n with
 | zero=>rfl
 | succ n ih=>simp only [GN];rw [ih fun k hk=>h k (by omega),h n (by omega)];rfl
theorem KN {n:Nat} {f g:Nat→Int} (h: ∀k,k<n→f k≤g k):GN n f≤GN n g:=by
 induction n with
 | zero=>exact Int.le_refl _
 | succ n ih=>simp only [GN];have:=ih fun k hk=>h k (by omega);have:=h n (by omega);omega
theorem D9 {l:List Int} {i k:Nat} {v:Int} (hk:k<l.length):gI (l.set k v) i=if i=k then v else gI l i:=by
 unfold gI
 by_cases h:i=k
 ·subst h
  rw [if_pos rfl,List.getD_eq_getElem?_getD,List.getElem?_set_self hk];rfl
 ·rw [if_neg h,List.getD_eq_getElem?_getD,List.getElem?_set_ne (Ne.symm h),List.getD_eq_getElem?_getD]
def BP (os:List AV) (k:Nat):List Int:=((ob os k).field.map (AB os)).filter fun x=>decide (0≤x)
def E (os:List AV) (k i:Nat):Int:=((BP os k).count (i:Int):Nat)
theorem CO {os:List AV} {k:Nat} {x:Int} (h:x∈BP os k):0≤x∧x.toNat<8∧x=(x.toNat:Int)∧os.length=8∧(ob os x.toNat).live=true:=by
 obtain ⟨h1,h2⟩:=List.mem_filter.1 h
 obtain ⟨f,_,rfl⟩:=List.mem_map.1 h1
 have h2:0≤AB os f:=by simpa using h2
 have:=BN h2
 exact ⟨h2,this.2.2.2.1,by omega,this.1,this.2.2.2.2.1⟩
theorem MY {os:List AV} (hof: ∀o∈os,OF o) {k:Nat} (hk:k<os.length):(BP os k).length≤3:=by
 have:=List.length_filter_le (fun x=>decide (0≤x)) ((ob os k).field.map (AB os))
 rw [List.length_map,(hof _ (H8 hk)).len] at this
 exact this
theorem O6 (os:List AV) (k i:Nat):0≤E os k i:=Int.natCast_nonneg _
theorem rI {os:List AV} {k i:Nat} (h:(i:Int)∉BP os k):E os k i=0:=by
 unfold E;rw [List.count_eq_zero.2 h];rfl
inductive Reach (os:List AV) (s:Nat):Nat→Prop
 | refl:Reach os s s
 | step {k:Nat} {j:Int}:Reach os s k→j∈BP os k→Reach os s j.toNat
theorem Reach.trans {os:List AV} {a b c:Nat} (h:Reach os a b) (g:Reach os b c):Reach os a c:=by
 induction g with
 | refl=>exact h
 | step _ hj ih=>exact .step ih hj
theorem Reach.closed {os:List AV} {P:Nat→Prop} {s k:Nat} (h:Reach os s k) (hs:P s) (hc: ∀k,P k→ ∀j∈BP os k,P j.toNat):P k:=by
 induction h with
 | refl=>exact hs
 | step _ hj ih=>exact hc _ ih _ hj
theorem Reach.lt {os:List AV} {s k:Nat} (h:Reach os s k) (hs:s<8):k<8:=h.closed (P:=fun k=>k<8) hs fun _ _ _ hj=>(CO hj).2.1
def S (os:List AV) (P:Nat→Bool) (i:Nat):Int:=GN 8 fun k=>if P k then E os k i else 0
theorem fF {os:List AV} {P Q:Nat→Bool} {i:Nat} (h: ∀k,k<8→P k=Q k):S os P i=S os Q i:=KL fun k hk=>by rw [h k hk]
theorem kT {os:List AV} {P Q:Nat→Bool} {i k0:Nat} (hk:k0<8) (h0:P k0=false) (h1:Q k0=true) (h: ∀k,k<8→k≠k0→P k=Q k):S os Q i=S os P i+E os k0 i:=by
 unfold S
 rw [SW (n:=8) (f:=fun k=>if P k then E os k i else 0) (g:=fun k=>if Q k then E os k i else 0) hk fun k hk hne=>by rw [h k hk hne]]
 simp only [h0,h1];simp
theorem ZM {os:List AV} {P:Nat→Bool} {i:Nat}:S os P i+S os (fun k=> !P k) i=S os (fun _=>true) i:=by
 unfold S
 rw [←jD]
 refine KL fun k hk=> ?_
 cases h:P k <;> simp [h]
def isC (col:List Int) (c:Int) (k:Nat):Bool:=decide (gI col k=c)
theorem PQ {col:List Int} {c:Int} {k s:Nat} (hs:s<col.length):isC (col.set s c) c k=(decide (k=s)||isC col c k):=by
 unfold isC
 rw [D9 hs]
 by_cases h:k=s
 ·simp [h]
 ·simp [h]
def JD (col:List Int) (c:Int):Nat:=(GN 8 fun k=>if isC col c k then 0 else 1).toNat
theorem fU {a b:List Int} {c:Int} (h: ∀k,k<8→gI a k=c→gI b k=c):JD b c≤JD a c:=by
 have:GN 8 (fun k=>if isC b c k then 0 else 1)≤GN 8 (fun k=>if isC a c k then 0 else 1):=KN fun k hk=>by
  by_cases h1:gI a k=c
  ·simp [isC,h1,h k hk h1]
  ·by_cases h3:gI b k=c <;> simp [isC,h1,h3]
 unfold JD;omega
theorem K3 {a b:List Int} {c:Int} {s:Nat} (hs:s<8) (h0:gI a s≠c) (h1:gI b s=c) (h: ∀k,k<8→gI a k=c→gI b k=c):JD b c<JD a c:=by
 have hle:GN 8 (fun k=>if isC b c k then 0 else 1)≤GN 8 (fun k=>if isC a c k∨k=s then 0 else 1):=KN fun k hk=>by
  by_cases h2:gI a k=c
  ·simp [isC,h2,h k hk h2]
  ·by_cases hks:k=s
   ·subst hks;simp [isC,h1]
   ·by_cases h3:gI b k=c <;> simp [isC,h2,h3,hks]
 have hu:=SW (n:=8) (k0:=s) (f:=fun k=>if isC a c k∨k=s then (0:Int) else 1) (g:=fun k=>if isC a c k then (0:Int) else 1) hs fun k hk hne=>by simp [hne]
 have e1:isC a c s=false:=by simp [isC,h0]
 simp only [e1,or_true,if_true] at hu
 have h3:0≤GN 8 (fun k=>if isC b c k then (0:Int) else 1):=by
  have:=KN (n:=8) (f:=fun _=>0) (g:=fun k=>if isC b c k then (0:Int) else 1) fun k hk=>by split <;> simp
  rw [IY (fun _ _=>rfl)] at this;exact this
 simp only [Bool.false_eq_true,if_false] at hu
 unfold JD;omega
theorem SK (col:List Int) (c:Int):JD col c≤8:=by
 have:GN 8 (fun k=>if isC col c k then (0:Int) else 1)≤GN 8 (fun _=>1):=KN fun k hk=>by split <;> simp
 have e:GN 8 (fun _=>(1:Int))=8:=rfl
 unfold JD;omega
structure JP (os:List AV) (c m:Int) (cs col cs' col':List Int) (s:Nat):Prop where
 len:cs'.length=8∧col'.length=8
 f: ∀i,i<8→F64 (gI cs' i)
 JR: ∀k,k<8→gI col k=c→gI col' k=c
 only: ∀k,k<8→gI col' k≠c→gI col' k=gI col k
 got:gI col' s=c
 clo: ∀k,k<8→gI col' k=c→gI col k≠c→Reach os s k∧ ∀j∈BP os k,gI col' j.toNat=c
 cnt: ∀i,i<8→gI cs' i=w64 (gI cs i+m*(S os (isC col' c) i-S os (isC col c) i))
theorem JP.refl {os:List AV} {c m:Int} {cs col:List Int} {s:Nat} (h1:cs.length=8) (h2:col.length=8) (hf: ∀i,i<8→F64 (gI cs i)) (hs:gI col s=c):JP os c m cs col cs col s:=
 ⟨⟨h1,h2⟩,hf,fun _ _ h=>h,fun _ _ _=>rfl,hs,fun _ _ h1 h2=>absurd h1 h2,fun i hi=>by rw [Int.sub_self,Int.mul_zero,Int.add_zero,KA (hf i hi)]⟩
end Go.Proofs.Ytklmcfpgdfibnaa.P
