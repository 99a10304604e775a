/- A part of the proof. -/
import Derived.Test.YtklmcfpgdfibnaaNwHpI
namespace Go.Proofs.Ytklmcfpgdfibnaa.P
open Go Go.Proofs.Ytklmcfpgdfibnaa Go.Proofs.Ytklmcfpgdfibnaa.Eng
set_option linter.unusedVariables false
set_option maxHeartbeats 4000000
set_option linter.unusedVariables false
set_option linter.unusedSimpArgs false
attribute [local irreducible] prP gP gE gF AV ixW ldc ldg ldl stc stg scW mkW apW BL cl2 BS EC CX
variable {w0:World}
def ML (n:Nat) (p:Nat→Bool):Int:=match (List.range n).find? p with
 | some i=>(i:Int)
 | none=> -1
theorem L5 {n i:Nat} {p:Nat→Bool} (hi:i<n) (h:p i=true) (hb: ∀k,k<i→p k=false):ML n p=i:=by
 have:(List.range n).find? p=some i:=List.find?_range_eq_some.2 ⟨h,List.mem_range.2 hi,fun j hj=>by rw [hb j hj];rfl⟩
 rw [ML,this]
theorem PB {n:Nat} {p:Nat→Bool} (hb: ∀k,k<n→p k=false):ML n p= -1:=by
 have:(List.range n).find? p=none:=List.find?_range_eq_none.2 fun j hj=>by rw [hb j hj];rfl
 rw [ML,this]
theorem Q2 (n:Nat) (p:Nat→Bool):(ML n p= -1∧ ∀k,k<n→p k=false)∨ ∃i,i<n∧ML n p=(i:Int)∧p i=true∧ ∀k,k<i→p k=false:=by
 cases h:(List.range n).find? p with
 | none=>exact .inl ⟨by rw [ML,h],fun k hk=>by have:=List.find?_range_eq_none.1 h k hk;simpa using this⟩
 | some i=>
   obtain ⟨h1,h2,h3⟩:=List.find?_range_eq_some.1 h
   exact .inr ⟨i,List.mem_range.1 h2,by rw [ML,h],h1,fun k hk=>by have:=h3 k hk;simpa using this⟩
def HX (os:List AU) (i:Nat):Bool:= !(ob os i).live&&decide ((ob os i).gen<999)
def B3 (os:List AU):Int:=ML os.length (HX os)
def IE (ws:List Wk):Int:=ML ws.length fun i=> !(wk ws i).used
theorem NT {os:List AU} {b c d:List T} {K:J2} (hol:os.length=8) (h:K [I (B3 os)] []):cl2 ⟨Try.prog,w0⟩ 75 DG.sg [] [tR tO os,b,c,d] K:=by
 refine DG.cl2 ?_
 unfold DG.txt
 simp only [AG,AK,AN,AM,AI,AD,AE,AP,AO,AJ,AQ,AR,AL,AH,BE,BJ,BH,BG,BK,BI,BF,A4,A8,A7,A6,A5,AZ]
 refine BD (fun i=>[iv os.length,iv i]) (fun _=>[]) os.length (fun i=> ∀k,k<i→HX os k=false) rfl rfl (fun k hk=>by omega) (fun R i hi hP hR=> ?_)
 simp only [AG,AK,AN,AM,AI,AD,AE,AP,AO,AJ,AQ,AR,AL,AH,BE,BJ,BH,BG,BK,BI,BF,A4,A8,A7,A6,A5,AZ]
 refine AX (AW (fun hlt=> ?_) fun hge=> ?_)
 ·have hlt:i<os.length:=by omega
  refine AS hlt (MB hlt ?_)
  simp only [fS,fQ]
  have no:HX os i=false→R [iv os.length,iv (i+1)] []:=fun hn=>hR hlt fun k hk=>(Nat.lt_succ_iff_lt_or_eq.1 hk).elim (hP k) fun he=>he ▸ hn
  have yes:HX os i=true→K [iv i] []:=fun hy=>by unfold B3 at h;rw [L5 hlt hy hP] at h;exact h
  cases hv:(ob os i).live with
  | false=>
    repeat' (first | refine BW ?_ | refine MM ?_ | refine HV (by first | with_reducible assumption | omega) ?_ | refine DX (by first | with_reducible assumption | omega) rfl ?_ | refine VF rfl ?_ | refine AX ?_ | refine BA (by omega) ?_ | refine AW (fun _=> ?_) (fun _=> ?_) | refine CT ?_)
    ·exact yes (by simp [HX,hv];omega)
    ·exact no (by simp [HX,hv];omega)
  | true=>
    repeat' (first | refine BW ?_ | refine NY ?_ | refine HV (by first | with_reducible assumption | omega) ?_ | refine DX (by first | with_reducible assumption | omega) rfl ?_ | refine cF rfl ?_ | refine BY ?_ | refine AX ?_ | refine BA (by omega) ?_ | refine CT ?_)
    all_goals exact no (by simp [HX,hv])
 ·have:i=os.length:=by omega
  subst this
  unfold B3 at h
  rw [PB hP] at h;exact h
theorem TF {os:List AU} {b c d:List T} {K:J2} (hol:os.length=8) (h:K [I (B3 os)] []):cl2 ⟨Try.prog,w0⟩ 152 EY.sg [] [tR tO os,b,c,d] K:=by
 refine EY.cl2 ?_
 unfold EY.txt
 simp only [AG,AK,AN,AM,AI,AD,AE,AP,AO,AJ,AQ,AR,AL,AH,BE,BJ,BH,BG,BK,BI,BF,A4,A8,A7,A6,A5,AZ]
 refine BD (fun i=>[iv i]) (fun _=>[]) os.length (fun i=> ∀k,k<i→HX os k=false) rfl rfl (fun k hk=>by omega) (fun R i hi hP hR=> ?_)
 simp only [AG,AK,AN,AM,AI,AD,AE,AP,AO,AJ,AQ,AR,AL,AH,BE,BJ,BH,BG,BK,BI,BF,A4,A8,A7,A6,A5,AZ]
 refine AX (BW (KI (fun hlt=> ?_) fun hge=> ?_))
 ·have hlt':i<os.length:=by omega
  refine AX (DX hlt rfl (DC (by omega) ?_))
  have no:HX os i=false→R [iv (i+1)] []:=fun hn=>hR hlt' fun k hk=>(Nat.lt_succ_iff_lt_or_eq.1 hk).elim (hP k) fun he=>he ▸ hn
  have yes:HX os i=true→K [iv i] []:=fun hy=>by unfold B3 at h;rw [L5 hlt' hy hP] at h;exact h
  refine AS hlt' ?_
  cases hv:(ob os i).live with
  | false=>
    refine J1 (v:= .bool false) hlt' (by simp [tO,hv]) (CT ?_)
    repeat' (first | refine AS hlt' ?_ | refine HJ (v:=I (ob os i).gen) hlt' (by decide) rfl ?_ | refine BW ?_ | refine MM ?_ | refine VF rfl ?_ | refine AX ?_ | refine BA (by omega) ?_ | refine AW (fun _=> ?_) (fun _=> ?_))
    ·exact yes (by simp [HX,hv];omega)
    ·exact no (by simp [HX,hv];omega)
  | true=>
    refine J1 (v:= .bool true) hlt' (by simp [tO,hv]) (CT ?_)
    repeat' (first | refine BW ?_ | refine NY ?_ | refine cF rfl ?_ | refine BY ?_ | refine BA (by omega) ?_)
    all_goals exact no (by simp [HX,hv])
 ·refine DW hge rfl (BY ?_)
  have:i=os.length:=by omega
  subst this
  unfold B3 at h
  rw [PB hP] at h;exact h
theorem TJ {ws:List Wk} {K:J2} (hol:ws.length=8) (h:K [I (IE ws)] []):cl2 ⟨Try.prog,w0⟩ 165 EU.sg [] [tR tW ws] K:=by
 refine EU.cl2 ?_
 unfold EU.txt
 simp only [AG,AK,AN,AM,AI,AD,AE,AP,AO,AJ,AQ,AR,AL,AH,BE,BJ,BH,BG,BK,BI,BF,A4,A8,A7,A6,A5,AZ]
 refine BD (fun i=>[iv ws.length,iv i]) (fun _=>[]) ws.length (fun i=> ∀k,k<i→(!(wk ws k).used)=false) rfl rfl (fun k hk=>by omega) (fun R i hi hP hR=> ?_)
 simp only [AG,AK,AN,AM,AI,AD,AE,AP,AO,AJ,AQ,AR,AL,AH,BE,BJ,BH,BG,BK,BI,BF,A4,A8,A7,A6,A5,AZ]
 refine AX (AW (fun hlt=> ?_) fun hge=> ?_)
 ·have hlt:i<ws.length:=by omega
  refine AS hlt (X2 hlt ?_)
  simp only [jP]
  cases hv:(wk ws i).used with
  | false=>
    refine CT (B6 ?_)
    unfold IE at h
    rw [L5 hlt (by rw [hv];rfl) hP] at h;exact h
  | true=>
    refine CT (BY (BA (by omega) (hR hlt fun k hk=> ?_)))
    rcases Nat.lt_succ_iff_lt_or_eq.1 hk with h3 | rfl
    ·exact hP k h3
    ·rw [hv];rfl
 ·have:i=ws.length:=by omega
  subst this
  unfold IE at h
  rw [PB hP] at h;exact h
theorem B7 {n:Int} {K:J2} (h:K [I n,I 0] [[]]):cl2 ⟨Try.prog,w0⟩ 107 BV.sg [I n] [] K:=BV.cl2 h
def I0 (g s:Int):AU:=⟨true,g,s,1,0,1,N9,false⟩
def GS (os:List AU) (ss:List ByteArray) (s:ByteArray):List AU×List ByteArray×An:=
 if ¬(1≤(s.size:Int)∧(s.size:Int)≤8) then (os,ss,⟨2,0,[]⟩)
 else if B3 os<0 then (os,ss,⟨3,0,[]⟩)
 else if at_ ss s<0∧6≤ss.length then (os,ss,⟨6,0,[]⟩)
 else (os.set (B3 os).toNat (I0 (w64 ((ob os (B3 os).toNat).gen+1)) (if at_ ss s<0 then ss.length else at_ ss s)),(if at_ ss s<0 then ss++[s] else ss),⟨0,CM (B3 os) (w64 ((ob os (B3 os).toNat).gen+1)),[]⟩)
theorem LX {os:List AU} (h: ¬B3 os<0):(B3 os).toNat<os.length∧B3 os=((B3 os).toNat:Int)∧HX os (B3 os).toNat=true:=by
 rcases Q2 os.length (HX os) with ⟨h1,_⟩ | ⟨i,h1,h2,h3,_⟩
 ·unfold B3 at h;omega
 ·have e:B3 os=i:=h2
  have e2:(B3 os).toNat=i:=by omega
  rw [e2];exact ⟨h1,e,h3⟩
theorem X7 {os:List AU} {b c:List T} {ss:List ByteArray} {s:ByteArray} {K:J2} (hol:os.length=8) (hsl:ss.length≤6) (h:K [I (GS os ss s).2.2.code,I (GS os ss s).2.2.val] [tI (GS os ss s).2.2.freed,tR tO (GS os ss s).1,tS (GS os ss s).2.1]):cl2 ⟨Try.prog,w0⟩ 144 DI.sg [.string s] [tR tO os,b,c,tS ss] K:=by
 refine DI.cl2 ?_
 unfold DI.txt
 refine NT hol (WO (by omega) (BO ?_))
 simp only [AG,AK,AN,AM,AI,AD,AE,AP,AO,AJ,AQ,AR,AL,AH,BE,BJ,BH,BG,BK,BI,BF,A4,A8,A7,A6,A5,AZ]
 unfold GS at h
 refine Y9 (IT (D7 (AW (fun hb=> ?_) fun hb=> ?_)))
 ·rw [if_pos hb] at h
  exact B7 h
 rw [if_neg hb] at h
 refine AX (AW (fun hf=> ?_) fun hf=> ?_)
 ·rw [if_pos hf] at h
  exact B7 h
 rw [if_neg hf] at h
 obtain ⟨f1,f2,f3⟩:=LX hf
 refine AX ?_
 by_cases ha:at_ ss s<0
 ·by_cases h6:6≤ss.length
  ·rw [if_pos ⟨ha,h6⟩] at h
   repeat' (first | exact B7 h | refine BW ?_ | refine HV (by first | with_reducible assumption | omega) ?_ | refine DX (by first | with_reducible assumption | omega) rfl ?_ | refine DC (by first | with_reducible assumption | omega) ?_ | refine G8 ?_)
   all_goals omega
  ·rw [if_neg (by omega),if_pos ha,if_pos ha] at h
   repeat' (first | refine BW ?_ | refine HV (by first | with_reducible assumption | omega) ?_ | refine DX (by first | with_reducible assumption | omega) rfl ?_ | refine DC (by first | with_reducible assumption | omega) ?_ | refine DE (by first | with_reducible assumption | omega) ?_ | refine AX ?_ | refine G8 ?_ | refine F7 ?_ | refine O5 (by omega) (by omega) ?_ | refine HJ (by omega) (by decide) rfl ?_ | refine EH (by first | exact LZ _ | exact X4 _ | exact X8 _ | exact nY _ | rfl) (by omega) ?_)
   exact K3 (y:=I0 (w64 ((ob os (B3 os).toNat).gen+1)) ss.length) (by omega) rfl (L4 (by rw [←gX] at h;exact h))
 ·rw [if_neg (by omega),if_neg ha,if_neg ha] at h
  repeat' (first | refine BW ?_ | refine LA (by first | with_reducible assumption | omega) ?_ | refine DW (by first | with_reducible assumption | omega) rfl ?_ | refine BY ?_ | refine DE (by first | with_reducible assumption | omega) ?_ | refine AX ?_ | refine F7 ?_ | refine O5 (by omega) (by omega) ?_ | refine HJ (by omega) (by decide) rfl ?_)
  exact K3 (y:=I0 (w64 ((ob os (B3 os).toNat).gen+1)) (at_ ss s)) (by omega) rfl (L4 h)
theorem oE {l:List ByteArray} {x s:ByteArray} (h:x∉l):at_ (l++[x]) s=if x=s then (l.length:Int) else at_ l s:=by
 unfold at_
 by_cases hs:s∈l
 ·rw [if_pos (List.mem_append_left _ hs),if_pos hs,List.idxOf_append,if_pos hs,if_neg (show ¬x=s from fun he=>h (he ▸ hs))]
 ·by_cases hx:x=s
  ·rw [if_pos (by simp [hx]),if_pos hx,List.idxOf_append,if_neg hs]
   simp [hx]
  ·rw [if_neg (by simp [hs,Ne.symm hx]),if_neg hx,if_neg hs]
theorem UF {os:List AU} {b c:List T} {ss:List ByteArray} {s:ByteArray} {k1 k2 k3 k4:Int} {K:J2} (hol:os.length=8) (hss:L8 ss) (h:K [I (GS os ss s).2.2.code,I (GS os ss s).2.2.val] [tR tO (GS os ss s).1,tS (GS os ss s).2.1,tI (GS os ss s).2.2.freed]):cl2 ⟨Try.prog,w0⟩ 123 FT.sg [I k1,I k2,I k3,I k4, .string s] [tR tO os,b,c,tS ss] K:=by
 have hsl:=hss.len
 refine FT.cl2 ?_
 unfold FT.txt
 unfold GS at h
 refine Y9 (DS (D7 (AW (fun hb=> ?_) fun hb=> ?_)))
 ·rw [if_pos hb] at h
  exact h
 rw [if_neg hb] at h
 refine TF hol (AX (AW (fun hf=> ?_) fun hf=> ?_))
 ·rw [if_pos hf] at h
  exact h
 rw [if_neg hf] at h
 obtain ⟨f1,f2,f3⟩:=LX hf
 refine BD (fun i=>[I (B3 os),I (at_ (ss.take i) s),iv i,I k1,I k2,I k3,I k4, .string s,I 0,I 0]) (fun _=>[tR tO os,tS ss]) ss.length (fun i=>True) rfl rfl trivial (fun R i hi hP hR=> ?_)
 simp only [AG,AK,AN,AM,AI,AD,AE,AP,AO,AJ,AQ,AR,AL,AH,BE,BJ,BH,BG,BK,BI,BF,A4,A8,A7,A6,A5,AZ]
 simp only [BF,rO,qU,rC]
 refine AX (AW (fun hlt=> ?_) fun hge=> ?_)
 ·have hlt:i<ss.length:=by omega
  replace hR:=hR hlt trivial
  have hone:=hss.one i hlt
  rw [List.take_succ_eq_append_getElem hlt,Q3 hlt,oE hone] at hR
  refine BO (AS hlt (ldS hlt (aD (AW (fun he=> ?_) fun he=> ?_))))
  ·rw [if_pos he,List.length_take,Nat.min_eq_left hi] at hR
   exact BA (by omega) hR
  ·rw [if_neg he] at hR
   exact BA (by omega) hR
 ·have:i=ss.length:=by omega
  subst this
  rw [List.take_length]
  refine AX ?_
  by_cases ha:at_ ss s<0
  ·by_cases h6:6≤ss.length
   ·rw [if_pos ⟨ha,h6⟩] at h
    repeat' (first | exact h | refine BW ?_ | refine HV (by first | with_reducible assumption | omega) ?_ | refine DX (by first | with_reducible assumption | omega) rfl ?_ | refine DC (by first | with_reducible assumption | omega) ?_ | refine G8 ?_)
    all_goals omega
   ·rw [if_neg (by omega),if_pos ha,if_pos ha] at h
    refine BW (BW (BW (HV ha (LO (DX ha rfl (DE (by omega) (BO (AX (DC ha (EH rfl (by omega) ?_))))))))))
    repeat' (first | refine IH ?_ | refine F7 ?_ | refine O5 (by omega) (by omega) ?_ | refine HJ (by omega) (by decide) rfl ?_ | simp only [AG,AK,AN,AM,AI,AD,AE,AP,AO,AJ,AQ,AR,AL,AH,BE,BJ,BH,BG,BK,BI,BF,A4,A8,A7,A6,A5,AZ])
    rw [←gX] at h
    exact K3 (y:=I0 (w64 ((ob os (B3 os).toNat).gen+1)) ss.length) (by omega) rfl (IW h)
  ·rw [if_neg (by omega),if_neg ha,if_neg ha] at h
   refine BW (BW (BW (LA ha (DW ha rfl (BY (BO (AX (DE (by omega) ?_))))))))
   repeat' (first | refine IH ?_ | refine F7 ?_ | refine O5 (by omega) (by omega) ?_ | refine HJ (by omega) (by decide) rfl ?_ | simp only [AG,AK,AN,AM,AI,AD,AE,AP,AO,AJ,AQ,AR,AL,AH,BE,BJ,BH,BG,BK,BI,BF,A4,A8,A7,A6,A5,AZ])
   exact K3 (y:=I0 (w64 ((ob os (B3 os).toNat).gen+1)) (at_ ss s)) (by omega) rfl (IW h)
def Q5 (r:List AU×List Int×List Int):List AU×List Int×An:=(r.1,r.2.1,⟨0,0,r.2.2⟩)
def JG (os:List AU) (buf:List Int) (kind id:Int):List AU×List Int×An:=
 if AB os id<0 then (os,buf,⟨1,0,[]⟩) else
 if kind=2 then
  if (ob os (AB os id).toNat).holds=20 then (os,buf,⟨4,0,[]⟩) else (ED (os.set (AB os id).toNat {ob os (AB os id).toNat with holds:=(ob os (AB os id).toNat).holds+1}) id,buf,⟨0,0,[]⟩)
 else if kind=5 then
  if (ob os (AB os id).toNat).roots=20 then (os,buf,⟨4,0,[]⟩) else (ED (os.set (AB os id).toNat {ob os (AB os id).toNat with roots:=(ob os (AB os id).toNat).roots+1}) id,buf,⟨0,0,[]⟩)
 else if kind=3 then
  if (ob os (AB os id).toNat).holds=0 then (os,buf,⟨5,0,[]⟩) else Q5 (HD (os.set (AB os id).toNat {ob os (AB os id).toNat with holds:=(ob os (AB os id).toNat).holds-1}) buf [id])
 else
  if (ob os (AB os id).toNat).roots=0 then (os,buf,⟨5,0,[]⟩) else Q5 (HD (os.set (AB os id).toNat {ob os (AB os id).toNat with roots:=(ob os (AB os id).toNat).roots-1}) buf [id])
theorem stH {os:List AU} {k:Nat} {v:Int} {K:List T→Prop} (hk:k<os.length) (h:K (tR tO (os.set k {ob os k with holds:=v}))):stc (tR tO os) [] (AA (iv (AA (iv k)*8+3))) (I v) K:=by
 rw [AY (AA (iv k)*8+3), ←DH hk] at*;exact XM hk h
theorem stR {os:List AU} {k:Nat} {v:Int} {K:List T→Prop} (hk:k<os.length) (h:K (tR tO (os.set k {ob os k with roots:=v}))):stc (tR tO os) [] (AA (iv (AA (iv k)*8+4))) (I v) K:=by
 rw [AY (AA (iv k)*8+4), ←DH hk] at*;exact SF hk (by decide) rfl rfl h
theorem VX {os:List AU} {buf:List Int} {b d:List T} {kind id:Int} {K:J2} (hol:os.length=8) (hof: ∀o∈os,OF o) (hb:buf.length≤100) (hid:F64 id) (hkd:kind=2∨kind=3∨kind=5∨kind=6) (hr: ∀i,(0≤(ob os i).holds∧(ob os i).holds≤20)∧(0≤(ob os i).roots∧(ob os i).roots≤20)) (h:K [I (JG os buf kind id).2.2.code,I (JG os buf kind id).2.2.val] [tI (JG os buf kind id).2.2.freed,tR tO (JG os buf kind id).1,tI (JG os buf kind id).2.1]):cl2 ⟨Try.prog,w0⟩ 145 CY.sg [I kind,I id] [tR tO os,b,tI buf,d] K:=by
 refine CY.cl2 ?_
 unfold CY.txt
 simp only [AG,AK,AN,AM,AI,AD,AE,AP,AO,AJ,AQ,AR,AL,AH,BE,BJ,BH,BG,BK,BI,BF,A4,A8,A7,A6,A5,AZ]
 unfold JG at h
 refine C6 hid (by omega) (AX (AW (fun hs=> ?_) fun hs=> ?_))
 ·rw [if_pos hs] at h
  exact B7 h
 rw [if_neg hs] at h
 have hkb:=BN (l:=os) (id:=id) (by omega)
 obtain ⟨k,hkk⟩: ∃k,(AB os id).toNat=k:=⟨_,rfl⟩
 have hkI:AB os id=(k:Int):=by omega
 rw [hkk] at h hkb
 have hkl:k<os.length:=by omega
 have hrk:=hr k
 have ho:=hof _ (HR (l:=os) (i:=k) (by omega))
 obtain ⟨⟨r1,r2⟩,r3,r4⟩:=hrk
 rw [BE,hkI]
 refine AS (by omega) (BO ?_)
 simp only [AG,AK,AN,AM,AI,AD,AE,AP,AO,AJ,AQ,AR,AL,AH,BE,BJ,BH,BG,BK,BI,BF,A4,A8,A7,A6,A5,AZ]
 rcases hkd with rfl | rfl | rfl | rfl
 ·simp only [if_true] at h
  repeat' (first | refine BW ?_ | refine OZ ?_ | refine SV ?_ | refine DX (by first | with_reducible assumption | omega) rfl ?_ | refine DW (by first | with_reducible assumption | omega) rfl ?_ | refine B6 ?_ | refine BY ?_ | refine BP ?_ | refine ET ⟨by omega,by omega⟩ ?_ | refine HJ (by omega) (by decide) rfl ?_ | refine AW (fun _=> ?_) (fun _=> ?_))
  ·rename_i h20
   rw [if_pos h20] at h
   exact B7 h
  ·rename_i h20
   rw [if_neg h20] at h
   exact stH hkl (OM hid (by simpa using hol) h)
 ·simp only [if_neg (show ¬(3:Int)=2 by decide),if_neg (show ¬(3:Int)=5 by decide),if_true] at h
  repeat' (first | refine BW ?_ | refine OZ ?_ | refine DW (by first | with_reducible assumption | omega) rfl ?_ | refine BY ?_ | refine BP ?_ | refine ET ⟨by omega,by omega⟩ ?_ | refine HJ (by omega) (by decide) rfl ?_ | refine AW (fun _=> ?_) (fun _=> ?_))
  ·rename_i h20
   rw [if_pos h20] at h
   exact B7 h
  ·rename_i h20
   rw [if_neg h20] at h
   exact stH hkl (O4 (buf:=buf) (ids:=[id]) (by simpa using hol) (JP hof ⟨ho.gen,ho.len,ho.fld⟩) (by omega) (by simp) (by simpa using hid) h)
 ·simp only [if_neg (show ¬(5:Int)=2 by decide),if_true] at h
  repeat' (first | refine BW ?_ | refine OZ ?_ | refine SV ?_ | refine DX (by first | with_reducible assumption | omega) rfl ?_ | refine DW (by first | with_reducible assumption | omega) rfl ?_ | refine B6 ?_ | refine BP ?_ | refine ET ⟨by omega,by omega⟩ ?_ | refine AS (by omega) ?_ | refine HJ (by omega) (by decide) rfl ?_ | refine AW (fun _=> ?_) (fun _=> ?_))
  ·rename_i h20
   rw [if_pos h20] at h
   exact B7 h
  ·rename_i h20
   rw [if_neg h20] at h
   exact stR hkl (OM hid (by simpa using hol) h)
 ·simp only [if_neg (show ¬(6:Int)=2 by decide),if_neg (show ¬(6:Int)=5 by decide),if_neg (show ¬(6:Int)=3 by decide)] at h
  repeat' (first | refine BW ?_ | refine OZ ?_ | refine DW (by first | with_reducible assumption | omega) rfl ?_ | refine B6 ?_ | refine BY ?_ | refine BP ?_ | refine ET ⟨by omega,by omega⟩ ?_ | refine AS (by omega) ?_ | refine HJ (by omega) (by decide) rfl ?_ | refine AW (fun _=> ?_) (fun _=> ?_))
  ·rename_i h20
   rw [if_pos h20] at h
   exact B7 h
  ·rename_i h20
   rw [if_neg h20] at h
   exact stR hkl (O4 (buf:=buf) (ids:=[id]) (by simpa using hol) (JP hof ⟨ho.gen,ho.len,ho.fld⟩) (by omega) (by simp) (by simpa using hid) h)
theorem s5 {os:List AU} {k:Nat} {v:Int} {K:List T→Prop} (hk:k<os.length) (h:K (tR tO (os.set k {ob os k with holds:=v}))):stc (tR tO os) [] (AA (iv k)*8+3) (I v) K:=by
 rw [←DH hk] at h;exact XM hk h
theorem sK {os:List AU} {k:Nat} {v:Int} {K:List T→Prop} (hk:k<os.length) (h:K (tR tO (os.set k {ob os k with roots:=v}))):stc (tR tO os) [] (AA (iv k)*8+4) (I v) K:=by
 rw [←DH hk] at h;exact SF hk (by decide) rfl rfl h
theorem St.set {h:Hp} {os:List AU} (st:St h) (hl:os.length=h.BB.length) (ho: ∀o∈os,OF o):St {h with BB:=os}:=⟨by have:=st.ol;simp only;omega,st.wl,st.sl,st.bl,ho,st.ss,st.wf,st.bf⟩
theorem WE {h:Hp} {kind id b c:Int} {s:ByteArray} {K:J2} (st:St h) (hid:F64 id) (hkd:kind=2∨kind=3∨kind=5∨kind=6) (hr: ∀i,(0≤(ob h.BB i).holds∧(ob h.BB i).holds≤20)∧(0≤(ob h.BB i).roots∧(ob h.BB i).roots≤20)) (hK:K [I (JG h.BB h.buffer kind id).2.2.code,I (JG h.BB h.buffer kind id).2.2.val] [tR tO (JG h.BB h.buffer kind id).1,tR tW h.CA,tI (JG h.BB h.buffer kind id).2.1,tS h.sites,tI (JG h.BB h.buffer kind id).2.2.freed]):cl2 ⟨Try.prog,w0⟩ 124 GI.sg [I kind,I id,I b,I c, .string s] (trees h) K:=by
 refine GI.cl2 ?_
 unfold GI.txt
 obtain ⟨os,ws,buf,ss⟩:=h
 have hol:os.length=8:=st.ol
 have hof: ∀o∈os,OF o:=st.of
 simp only at hr hK
 simp only [trees]
 simp only [AG,AK,AN,AM,AI,AD,AE,AP,AO,AJ,AQ,AR,AL,AH,BE,BJ,BH,BG,BK,BI,BF,A4,A8,A7,A6,A5,AZ]
 unfold JG at hK
 refine CO hid (by omega) (AX (AW (fun hs=> ?_) fun hs=> ?_))
 ·rw [if_pos hs] at hK
  exact hK
 rw [if_neg hs] at hK
 have hkb:=BN (l:=os) (id:=id) (by omega)
 obtain ⟨k,hkk⟩: ∃k,(AB os id).toNat=k:=⟨_,rfl⟩
 have hkI:AB os id=(k:Int):=by omega
 rw [hkk] at hK hkb
 have hkl:k<os.length:=by omega
 have hrk:=hr k
 have ho:=hof _ (HR (l:=os) (i:=k) (by omega))
 obtain ⟨⟨r1,r2⟩,r3,r4⟩:=hrk
 rw [BE,hkI]
 refine AS (by omega) (MB hkl (BO (BO ?_)))
 simp only [fS,fQ,kR,kH,jO,eG,mF]
 have gn: ∀{os':List AU} {K:J2},os'.length=os.length→(∀o∈os',OF o)→K [] [tR tO (ED os' id),tR tW ws,tI buf,tS ss]→cl2 ⟨Try.prog,w0⟩ 153 FH.sg [I id] [tR tO os',tR tW ws,tI buf,tS ss] K:=fun hl ho hk=>SZ (St.set st hl ho) hid hk
 have ls: ∀{os':List AU} {K:J2},os'.length=os.length→(∀o∈os',OF o)→K [] [tR tO (HD os' buf [id]).1,tR tW ws,tI (HD os' buf [id]).2.1,tS ss,tI (HD os' buf [id]).2.2]→cl2 ⟨Try.prog,w0⟩ 154 FZ.sg [] [tR tO os',tR tW ws,tI buf,tS ss,tI [id]] K:=fun hl ho hk=>S4 (St.set st hl ho) (by simp) (by simpa using hid) hk
 rcases hkd with rfl | rfl | rfl | rfl
 ·simp only [if_true] at hK
  by_cases h20:(ob os k).holds=20
  ·rw [if_pos h20] at hK
   repeat' (first | refine BW ?_ | refine MM ?_ | refine DX (by first | with_reducible assumption | omega) rfl ?_ | refine DC (by first | with_reducible assumption | omega) ?_ | refine G8 ?_ | refine BP ?_ | simp only [AG,AK,AN,AM,AI,AD,AE,AP,AO,AJ,AQ,AR,AL,AH,BE,BJ,BH,BG,BK,BI,BF,A4,A8,A7,A6,A5,AZ])
   exact hK
  ·rw [if_neg h20] at hK
   repeat' (first | refine BO ?_ | refine BW ?_ | refine MM ?_ | refine NY ?_ | refine DX (by first | with_reducible assumption | omega) rfl ?_ | refine DW (by first | with_reducible assumption | omega) rfl ?_ | refine B6 ?_ | refine BY ?_ | refine DE (by first | with_reducible assumption | omega) ?_ | refine G8 ?_ | refine BP ?_ | refine ET ⟨by omega,by omega⟩ ?_ | refine AS (by omega) ?_ | simp only [AG,AK,AN,AM,AI,AD,AE,AP,AO,AJ,AQ,AR,AL,AH,BE,BJ,BH,BG,BK,BI,BF,A4,A8,A7,A6,A5,AZ])
   exact s5 hkl (gn (by simp) (JP hof ⟨ho.gen,ho.len,ho.fld⟩) hK)
 ·simp only [if_neg (show ¬(3:Int)=2 by decide),if_neg (show ¬(3:Int)=5 by decide),if_true] at hK
  by_cases h20:(ob os k).holds=0
  ·rw [if_pos h20] at hK
   repeat' (first | refine BO ?_ | refine BW ?_ | refine MM ?_ | refine NY ?_ | refine DX (by first | with_reducible assumption | omega) rfl ?_ | refine DW (by first | with_reducible assumption | omega) rfl ?_ | refine BY ?_ | refine DC (by first | with_reducible assumption | omega) ?_ | refine AX ?_ | refine BP ?_ | simp only [AG,AK,AN,AM,AI,AD,AE,AP,AO,AJ,AQ,AR,AL,AH,BE,BJ,BH,BG,BK,BI,BF,A4,A8,A7,A6,A5,AZ])
   exact hK
  ·rw [if_neg h20] at hK
   repeat' (first | refine BO ?_ | refine BW ?_ | refine MM ?_ | refine NY ?_ | refine DX (by first | with_reducible assumption | omega) rfl ?_ | refine DW (by first | with_reducible assumption | omega) rfl ?_ | refine B6 ?_ | refine BY ?_ | refine DE (by first | with_reducible assumption | omega) ?_ | refine AX ?_ | refine BP ?_ | refine ET ⟨by omega,by omega⟩ ?_ | refine AS (by omega) ?_ | simp only [AG,AK,AN,AM,AI,AD,AE,AP,AO,AJ,AQ,AR,AL,AH,BE,BJ,BH,BG,BK,BI,BF,A4,A8,A7,A6,A5,AZ])
   exact s5 hkl (ls (by simp) (JP hof ⟨ho.gen,ho.len,ho.fld⟩) hK)
 ·simp only [if_neg (show ¬(5:Int)=2 by decide),if_true] at hK
  by_cases h20:(ob os k).roots=20
  ·rw [if_pos h20] at hK
   repeat' (first | refine BW ?_ | refine MM ?_ | refine NY ?_ | refine DX (by first | with_reducible assumption | omega) rfl ?_ | refine DW (by first | with_reducible assumption | omega) rfl ?_ | refine BY ?_ | refine DC (by first | with_reducible assumption | omega) ?_ | refine G8 ?_ | refine BP ?_ | simp only [AG,AK,AN,AM,AI,AD,AE,AP,AO,AJ,AQ,AR,AL,AH,BE,BJ,BH,BG,BK,BI,BF,A4,A8,A7,A6,A5,AZ])
   exact hK
  ·rw [if_neg h20] at hK
   repeat' (first | refine BO ?_ | refine BW ?_ | refine MM ?_ | refine NY ?_ | refine DX (by first | with_reducible assumption | omega) rfl ?_ | refine DW (by first | with_reducible assumption | omega) rfl ?_ | refine B6 ?_ | refine BY ?_ | refine DE (by first | with_reducible assumption | omega) ?_ | refine G8 ?_ | refine BP ?_ | refine ET ⟨by omega,by omega⟩ ?_ | refine AS (by omega) ?_ | simp only [AG,AK,AN,AM,AI,AD,AE,AP,AO,AJ,AQ,AR,AL,AH,BE,BJ,BH,BG,BK,BI,BF,A4,A8,A7,A6,A5,AZ])
   exact sK hkl (gn (by simp) (JP hof ⟨ho.gen,ho.len,ho.fld⟩) hK)
 ·simp only [if_neg (show ¬(6:Int)=2 by decide),if_neg (show ¬(6:Int)=5 by decide),if_neg (show ¬(6:Int)=3 by decide)] at hK
  by_cases h20:(ob os k).roots=0
  ·rw [if_pos h20] at hK
   repeat' (first | refine BO ?_ | refine BW ?_ | refine MM ?_ | refine NY ?_ | refine DX (by first | with_reducible assumption | omega) rfl ?_ | refine DW (by first | with_reducible assumption | omega) rfl ?_ | refine BY ?_ | refine DC (by first | with_reducible assumption | omega) ?_ | refine AX ?_ | refine BP ?_ | simp only [AG,AK,AN,AM,AI,AD,AE,AP,AO,AJ,AQ,AR,AL,AH,BE,BJ,BH,BG,BK,BI,BF,A4,A8,A7,A6,A5,AZ])
   exact hK
  ·rw [if_neg h20] at hK
   repeat' (first | refine BO ?_ | refine BW ?_ | refine MM ?_ | refine NY ?_ | refine DX (by first | with_reducible assumption | omega) rfl ?_ | refine DW (by first | with_reducible assumption | omega) rfl ?_ | refine BY ?_ | refine DE (by first | with_reducible assumption | omega) ?_ | refine AX ?_ | refine BP ?_ | refine ET ⟨by omega,by omega⟩ ?_ | refine AS (by omega) ?_ | simp only [AG,AK,AN,AM,AI,AD,AE,AP,AO,AJ,AQ,AR,AL,AH,BE,BJ,BH,BG,BK,BI,BF,A4,A8,A7,A6,A5,AZ])
   exact sK hkl (ls (by simp) (JP hof ⟨ho.gen,ho.len,ho.fld⟩) hK)
end Go.Proofs.Ytklmcfpgdfibnaa.P
namespace Go.Proofs.Ytklmcfpgdfibnaa.P
open Go Go.Proofs.Ytklmcfpgdfibnaa Go.Proofs.Ytklmcfpgdfibnaa.Eng
set_option linter.unusedVariables false
set_option maxHeartbeats 4000000
set_option linter.unusedVariables false
set_option linter.unusedSimpArgs false
attribute [local irreducible] prP gP gE gF AV ixW ldc ldg ldl stc stg scW mkW apW BL cl2 BS EC CX
variable {w0:World}
def G4 (os:List AU) (buf:List Int) (a b c:Int):List AU×List Int×An:=
 if AB os a<0∨(c≠ -1∧AB os c<0) then (os,buf,⟨1,0,[]⟩) else
 if ¬(0≤b∧b≤2) then (os,buf,⟨2,0,[]⟩) else
 if gI (ob os (AB os a).toNat).field b.toNat= -1 then
  ((ED os c).set (AB os a).toNat {ob (ED os c) (AB os a).toNat with field:=(ob os (AB os a).toNat).field.set b.toNat c},buf,⟨0,0,[]⟩)
 else Q5 (HD ((ED os c).set (AB os a).toNat {ob (ED os c) (AB os a).toNat with field:=(ob os (AB os a).toNat).field.set b.toNat c}) buf [gI (ob os (AB os a).toNat).field b.toNat])
theorem FQ {l:List AU} {i k:Nat} {o:AU} (hk:k<l.length):ob (l.set k o) i=if i=k then o else ob l i:=by
 unfold ob
 by_cases h:i=k
 ·subst h
  rw [if_pos rfl,List.getD_eq_getElem?_getD,List.getElem?_set_self hk];rfl
 ·rw [if_neg h,List.getD_eq_getElem?_getD,List.getElem?_set_ne (Ne.symm h),List.getD_eq_getElem?_getD]
theorem UN {os:List AU} {id:Int} {i:Nat}:(ob (ED os id) i).live=(ob os i).live∧(ob (ED os id) i).gen=(ob os i).gen∧(ob (ED os id) i).site=(ob os i).site∧(ob (ED os id) i).holds=(ob os i).holds∧(ob (ED os id) i).roots=(ob os i).roots∧(ob (ED os id) i).field=(ob os i).field∧(ob (ED os id) i).purple=(ob os i).purple:=by
 unfold ED
 split
 ·exact ⟨rfl,rfl,rfl,rfl,rfl,rfl,rfl⟩
 ·have hk:=BN (l:=os) (id:=id) (by omega)
  rw [FQ (by omega)]
  split
  ·rename_i h;subst h;exact ⟨rfl,rfl,rfl,rfl,rfl,rfl,rfl⟩
  ·exact ⟨rfl,rfl,rfl,rfl,rfl,rfl,rfl⟩
theorem stF {os:List AU} {k j:Nat} {v:Int} {K:List T→Prop} (hk:k<os.length) (hj:j<(ob os k).field.length) (h:K (tR tO (os.set k {ob os k with field:=(ob os k).field.set j v}))):stc (tR tO os) [AA (iv k)*8+6] (AA (iv j)*1) (I v) K:=by
 rw [←DH hk] at h hj;exact hU hk hj h
theorem OF.put {o:AU} {m:List Int} (h:OF o) (hl:m.length=3) (hf: ∀x∈m,F64 x):OF {o with field:=m}:=⟨h.gen,hl,hf⟩
theorem Y0 {os:List AU} {buf:List Int} {b d:List T} {a0 a1 a2 a3:Int} {s:ByteArray} {K:J2} (hol:os.length=8) (hof: ∀o∈os,OF o) (hb:buf.length≤100) (h1:F64 a1) (h3:F64 a3) (h:K [I (G4 os buf a1 a2 a3).2.2.code,I (G4 os buf a1 a2 a3).2.2.val] [tI (G4 os buf a1 a2 a3).2.2.freed,tR tO (G4 os buf a1 a2 a3).1,tI (G4 os buf a1 a2 a3).2.1]):cl2 ⟨Try.prog,w0⟩ 146 DJ.sg [I a0,I a1,I a2,I a3, .string s] [tR tO os,b,tI buf,d] K:=by
 refine DJ.cl2 ?_
 unfold DJ.txt
 unfold G4 at h
 refine C6 h1 (by omega) ?_
 by_cases hs:AB os a1<0
 ·rw [if_pos (.inl hs)] at h
  repeat' (first | exact B7 h | refine BW ?_ | refine qB ?_ | refine YP (by first | with_reducible assumption | omega) ?_ | refine NU (by first | with_reducible assumption | omega) ?_ | refine DX (by first | with_reducible assumption | omega) rfl ?_ | refine B6 ?_ | refine AX ?_)
 have hkb:=BN (l:=os) (id:=a1) (by omega)
 by_cases hc:a3≠ -1∧AB os a3<0
 ·obtain ⟨hc1,hc2⟩:=hc
  rw [if_pos (.inr ⟨hc1,hc2⟩)] at h
  repeat' (first | refine C6 h3 (by omega) ?_ | exact B7 h | refine BW ?_ | refine S7 ?_ | refine R9 (by first | with_reducible assumption | omega) ?_ | refine HV (by first | with_reducible assumption | omega) ?_ | refine F8 (by first | with_reducible assumption | omega) ?_ | refine DX (by first | with_reducible assumption | omega) rfl ?_ | refine DW (by first | with_reducible assumption | omega) rfl ?_ | refine DC (by first | with_reducible assumption | omega) ?_ | refine AX ?_ | refine CN ?_)
 rw [if_neg (by omega)] at h
 by_cases hb2: ¬(0≤a2∧a2≤2)
 ·rw [if_pos hb2] at h
  repeat' (first | refine C6 h3 (by omega) ?_ | refine IT ?_ | exact B7 h | refine BW ?_ | refine S7 ?_ | refine R9 (by first | with_reducible assumption | omega) ?_ | refine HV (by first | with_reducible assumption | omega) ?_ | refine LA (by first | with_reducible assumption | omega) ?_ | refine F8 (by first | with_reducible assumption | omega) ?_ | refine DX (by first | with_reducible assumption | omega) rfl ?_ | refine DW (by first | with_reducible assumption | omega) rfl ?_ | refine BY ?_ | refine DC (by first | with_reducible assumption | omega) ?_ | refine DE (by first | with_reducible assumption | omega) ?_ | refine AX ?_ | refine CN ?_ | refine D7 ?_ | refine KI (fun _=> ?_) (fun _=> ?_))
 rw [if_neg hb2] at h
 obtain ⟨k,hkk⟩: ∃k,(AB os a1).toNat=k:=⟨_,rfl⟩
 have hkI:AB os a1=(k:Int):=by omega
 rw [hkk] at h hkb
 obtain ⟨j,rfl⟩: ∃j:Nat,a2=j:=⟨a2.toNat,by omega⟩
 rw [Int.toNat_natCast] at h
 have hkl:k<os.length:=by omega
 have ho:=hof _ (HR (l:=os) (i:=k) (by omega))
 obtain ⟨_,_,_,_,_,gf,_⟩:=UN (os:=os) (id:=a3) (i:=k)
 have gl:=SK os a3
 have gof:=bJ (id:=a3) hof
 have jl:j<(ob os k).field.length:=by rw [ho.len];omega
 rw [hkI]
 repeat' (first | refine C6 h3 (by omega) ?_ | refine IT ?_ | refine OM h3 hol ?_ | refine BW ?_ | refine S7 ?_ | refine dW ?_ | refine OZ ?_ | refine HV (by first | with_reducible assumption | omega) ?_ | refine LA (by first | with_reducible assumption | omega) ?_ | refine DX (by first | with_reducible assumption | omega) rfl ?_ | refine DW (by first | with_reducible assumption | omega) rfl ?_ | refine BY ?_ | refine DE (by first | with_reducible assumption | omega) ?_ | refine AX ?_ | refine CN ?_ | refine D7 ?_ | refine AS (by omega) ?_ | refine YD (by omega) ?_ | refine KI (fun _=> ?_) (fun _=> ?_) | simp only [AG,AK,AN,AM,AI,AD,AE,AP,AO,AJ,AQ,AR,AL,AH,BE,BJ,BH,BG,BK,BI,BF,A4,A8,A7,A6,A5,AZ])
 all_goals
  refine AS (by rw [G3 (by omega),AD,gf];exact jl) (MJ (by omega) (by rw [gf];exact jl) (AS (by omega) ?_))
  rw [gf]
  refine OJ (f:=tO) (i:=k) (by omega) (by decide) rfl ?_
  refine AS (by rw [G3 (by omega),AD,gf];exact jl) (stF (by omega) (by rw [gf];exact jl) ?_)
  rw [gf]
  refine BP (AW (fun he=> ?_) fun he=> ?_)
  ·rw [if_pos he] at h;exact h
  ·rw [if_neg he] at h
   exact O4 (buf:=buf) (ids:=[gI (ob os k).field j]) (by simpa using gl.trans hol) (JP gof (OF.put (gof _ (HR (by omega))) (by rw [List.length_set];exact ho.len) fun x hx=>(List.mem_or_eq_of_mem_set hx).elim (ho.fld x) fun he=>he ▸ h3)) (by omega) (by simp) (by simpa using ho.fld _ (DV jl)) h
theorem UJ {h:Hp} {a0 a1 a2 a3:Int} {s:ByteArray} {K:J2} (st:St h) (h1:F64 a1) (h3:F64 a3) (hfd: ∀i, ∀f∈(ob h.BB i).field,f= -1∨0≤f) (hK:K [I (G4 h.BB h.buffer a1 a2 a3).2.2.code,I (G4 h.BB h.buffer a1 a2 a3).2.2.val] [tR tO (G4 h.BB h.buffer a1 a2 a3).1,tR tW h.CA,tI (G4 h.BB h.buffer a1 a2 a3).2.1,tS h.sites,tI (G4 h.BB h.buffer a1 a2 a3).2.2.freed]):cl2 ⟨Try.prog,w0⟩ 125 FM.sg [I a0,I a1,I a2,I a3, .string s] (trees h) K:=by
 refine FM.cl2 ?_
 unfold FM.txt
 obtain ⟨os,ws,buf,ss⟩:=h
 have hol:os.length=8:=st.ol
 have hof: ∀o∈os,OF o:=st.of
 simp only at hK hfd
 simp only [trees]
 unfold G4 at hK
 have gn: ∀{K:J2},K [] [tR tO (ED os a3),tR tW ws,tI buf,tS ss]→cl2 ⟨Try.prog,w0⟩ 153 FH.sg [I a3] [tR tO os,tR tW ws,tI buf,tS ss] K:=fun hk=>SZ st h3 hk
 have ls: ∀{os':List AU} {x:Int} {K:J2},os'.length=os.length→(∀o∈os',OF o)→F64 x→K [] [tR tO (HD os' buf [x]).1,tR tW ws,tI (HD os' buf [x]).2.1,tS ss,tI (HD os' buf [x]).2.2]→cl2 ⟨Try.prog,w0⟩ 154 FZ.sg [] [tR tO os',tR tW ws,tI buf,tS ss,tI [x]] K:=fun hl ho hx hk=>S4 (St.set st hl ho) (by simp) (by simpa using hx) hk
 refine CO h1 (by omega) ?_
 by_cases hs:AB os a1<0
 ·rw [if_pos (.inl hs)] at hK
  repeat' (first | exact hK | refine BW ?_ | refine qB ?_ | refine YP (by first | with_reducible assumption | omega) ?_ | refine NU (by first | with_reducible assumption | omega) ?_ | refine DX (by first | with_reducible assumption | omega) rfl ?_ | refine B6 ?_ | refine AX ?_)
 have hkb:=BN (l:=os) (id:=a1) (by omega)
 by_cases hc:a3≠ -1∧AB os a3<0
 ·obtain ⟨hc1,hc2⟩:=hc
  rw [if_pos (.inr ⟨hc1,hc2⟩)] at hK
  repeat' (first | refine CO h3 (by omega) ?_ | exact hK | refine BW ?_ | refine S7 ?_ | refine R9 (by first | with_reducible assumption | omega) ?_ | refine HV (by first | with_reducible assumption | omega) ?_ | refine F8 (by first | with_reducible assumption | omega) ?_ | refine DX (by first | with_reducible assumption | omega) rfl ?_ | refine DW (by first | with_reducible assumption | omega) rfl ?_ | refine DC (by first | with_reducible assumption | omega) ?_ | refine AX ?_ | refine CN ?_)
 rw [if_neg (by omega)] at hK
 by_cases hb2: ¬(0≤a2∧a2≤2)
 ·rw [if_pos hb2] at hK
  repeat' (first | refine CO h3 (by omega) ?_ | refine DS ?_ | exact hK | refine BW ?_ | refine S7 ?_ | refine R9 (by first | with_reducible assumption | omega) ?_ | refine HV (by first | with_reducible assumption | omega) ?_ | refine LA (by first | with_reducible assumption | omega) ?_ | refine F8 (by first | with_reducible assumption | omega) ?_ | refine DX (by first | with_reducible assumption | omega) rfl ?_ | refine DW (by first | with_reducible assumption | omega) rfl ?_ | refine BY ?_ | refine DC (by first | with_reducible assumption | omega) ?_ | refine DE (by first | with_reducible assumption | omega) ?_ | refine AX ?_ | refine CN ?_ | refine D7 ?_ | refine KI (fun _=> ?_) (fun _=> ?_))
 rw [if_neg hb2] at hK
 obtain ⟨k,hkk⟩: ∃k,(AB os a1).toNat=k:=⟨_,rfl⟩
 have hkI:AB os a1=(k:Int):=by omega
 rw [hkk] at hK hkb
 obtain ⟨j,rfl⟩: ∃j:Nat,a2=j:=⟨a2.toNat,by omega⟩
 rw [Int.toNat_natCast] at hK
 have hkl:k<os.length:=by omega
 have ho:=hof _ (HR (l:=os) (i:=k) (by omega))
 obtain ⟨_,_,_,_,_,gf,_⟩:=UN (os:=os) (id:=a3) (i:=k)
 have gl:=SK os a3
 have gof:=bJ (id:=a3) hof
 have jl:j<(ob os k).field.length:=by rw [ho.len];omega
 have hold:=hfd k _ (DV jl)
 rw [hkI]
 repeat' (first | refine CO h3 (by omega) ?_ | refine DS ?_ | refine BW ?_ | refine S7 ?_ | refine dW ?_ | refine OZ ?_ | refine HV (by first | with_reducible assumption | omega) ?_ | refine LA (by first | with_reducible assumption | omega) ?_ | refine DX (by first | with_reducible assumption | omega) rfl ?_ | refine DW (by first | with_reducible assumption | omega) rfl ?_ | refine BY ?_ | refine DE (by first | with_reducible assumption | omega) ?_ | refine AX ?_ | refine CN ?_ | refine D7 ?_ | refine AS (by omega) ?_ | refine YD (by omega) ?_ | refine KI (fun _=> ?_) (fun _=> ?_) | simp only [AG,AK,AN,AM,AI,AD,AE,AP,AO,AJ,AQ,AR,AL,AH,BE,BJ,BH,BG,BK,BI,BF,A4,A8,A7,A6,A5,AZ])
 all_goals
  refine AS (by rw [G3 (by omega),AD];exact jl) (MJ (by omega) jl (BO ?_))
  simp only [AG,AK,AN,AM,AI,AD,AE,AP,AO,AJ,AQ,AR,AL,AH,BE,BJ,BH,BG,BK,BI,BF,A4,A8,A7,A6,A5,AZ]
  refine LO (AW (fun hge=>gn ?_) fun hlt=> ?_)
  ·simp only [AG,AK,AN,AM,AI,AD,AE,AP,AO,AJ,AQ,AR,AL,AH,BE,BJ,BH,BG,BK,BI,BF,A4,A8,A7,A6,A5,AZ]
   refine AS (by omega) (OJ (f:=tO) (i:=k) (by omega) (by decide) rfl ?_)
   refine AS (by rw [G3 (by omega),AD,gf];exact jl) (stF (by omega) (by rw [gf];exact jl) ?_)
   rw [gf]
   refine AX (AW (fun he=> ?_) fun he=> ?_)
   ·rw [if_pos (by omega)] at hK;exact hK
   ·rw [if_neg (by omega)] at hK
    exact ls (by simpa using gl) (JP gof (OF.put (gof _ (HR (by omega))) (by rw [List.length_set];exact ho.len) fun x hx=>(List.mem_or_eq_of_mem_set hx).elim (ho.fld x) fun he=>he ▸ h3)) (ho.fld _ (DV jl)) hK
  ·have e0:ED os a3=os:=by unfold ED;rw [if_pos];rw [HF (by omega)];decide
   rw [e0] at hK
   refine AS (by omega) (OJ (f:=tO) (i:=k) (by omega) (by decide) rfl ?_)
   refine AS (by rw [G3 (by omega),AD];exact jl) (stF (by omega) jl ?_)
   refine AX (AW (fun he=> ?_) fun he=> ?_)
   ·rw [if_pos (by omega)] at hK;exact hK
   ·rw [if_neg (by omega)] at hK
    exact ls (by simp) (JP hof (OF.put ho (by rw [List.length_set];exact ho.len) fun x hx=>(List.mem_or_eq_of_mem_set hx).elim (ho.fld x) fun he=>he ▸ h3)) (ho.fld _ (DV jl)) hK
def KJ (os:List AU) (ws:List Wk) (id:Int):List Wk×An:=
 if AB os id<0 then (ws,⟨1,0,[]⟩) else if IE ws<0 then (ws,⟨3,0,[]⟩) else (ws.set (IE ws).toNat ⟨true,id⟩,⟨0,IE ws,[]⟩)
def GO (os:List AU) (ws:List Wk) (kind k:Int):List Wk×An:=
 if ¬(0≤k∧k≤(ws.length:Int)-1) then (ws,⟨2,0,[]⟩) else
 if (wk ws k.toNat).used=false then (ws,⟨2,0,[]⟩) else
 if kind=9 then (ws.set k.toNat ⟨false,0⟩,⟨0,0,[]⟩) else
 if AB os (wk ws k.toNat).target<0 then (ws,⟨0, -1,[]⟩) else (ws,⟨0,(wk ws k.toNat).target,[]⟩)
theorem W7 {ws:List Wk} (h: ¬IE ws<0):(IE ws).toNat<ws.length∧IE ws=((IE ws).toNat:Int)∧(wk ws (IE ws).toNat).used=false:=by
 rcases Q2 ws.length (fun i=> !(wk ws i).used) with ⟨h1,_⟩ | ⟨i,h1,h2,h3,_⟩
 ·unfold IE at h;omega
 ·have e:IE ws=i:=h2
  have e2:(IE ws).toNat=i:=by omega
  rw [e2];exact ⟨h1,e,by simpa using h3⟩
theorem bO {os:List AU} {ws:List Wk} {c d:List T} {id:Int} {K:J2} (hol:os.length=8) (hwl:ws.length=8) (hid:F64 id) (h:K [I (KJ os ws id).2.code,I (KJ os ws id).2.val] [tI (KJ os ws id).2.freed,tR tW (KJ os ws id).1]):cl2 ⟨Try.prog,w0⟩ 147 EA.sg [I id] [tR tO os,tR tW ws,c,d] K:=by
 refine EA.cl2 ?_
 unfold EA.txt
 unfold KJ at h
 simp only [AG,AK,AN,AM,AI,AD,AE,AP,AO,AJ,AQ,AR,AL,AH,BE,BJ,BH,BG,BK,BI,BF,A4,A8,A7,A6,A5,AZ]
 refine TJ hwl (C6 hid (by omega) (AX (AW (fun hs=> ?_) fun hs=> ?_)))
 ·rw [if_pos hs] at h;exact B7 h
 rw [if_neg hs] at h
 refine AX (AW (fun hf=> ?_) fun hf=> ?_)
 ·rw [if_pos hf] at h;exact B7 h
 rw [if_neg hf] at h
 obtain ⟨f1,f2,f3⟩:=W7 hf
 simp only [AG,AK,AN,AM,AI,AD,AE,AP,AO,AJ,AQ,AR,AL,AH,BE,BJ,BH,BG,BK,BI,BF,A4,A8,A7,A6,A5,AZ]
 rw [f2] at h ⊢
 rw [Int.toNat_natCast] at h
 exact AS f1 (K3 (f:=tW) f1 (y:=⟨true,id⟩) rfl h)
theorem WI {os:List AU} {ws:List Wk} {c d:List T} {kind k:Int} {K:J2} (hol:os.length=8) (hwl:ws.length=8) (hk:F64 k) (hwf: ∀w∈ws,F64 w.target) (h:K [I (GO os ws kind k).2.code,I (GO os ws kind k).2.val] [tI (GO os ws kind k).2.freed,tR tW (GO os ws kind k).1]):cl2 ⟨Try.prog,w0⟩ 148 DA.sg [I kind,I k] [tR tO os,tR tW ws,c,d] K:=by
 refine DA.cl2 ?_
 unfold DA.txt
 unfold GO at h
 simp only [AG,AK,AN,AM,AI,AD,AE,AP,AO,AJ,AQ,AR,AL,AH,BE,BJ,BH,BG,BK,BI,BF,A4,A8,A7,A6,A5,AZ]
 refine H8 ⟨by omega,by omega⟩ (IT (D7 ?_))
 by_cases hb: ¬(0≤k∧k≤(ws.length:Int)-1)
 ·rw [if_pos hb] at h
  repeat' (first | exact B7 h | refine BW ?_ | refine NU (by first | with_reducible assumption | omega) ?_ | refine DX (by first | with_reducible assumption | omega) rfl ?_ | refine B6 ?_)
 rw [if_neg hb] at h
 obtain ⟨j,rfl⟩: ∃j:Nat,k=j:=⟨k.toNat,by omega⟩
 rw [Int.toNat_natCast] at h
 have jl:j<ws.length:=by omega
 have hw:=hwf _ (List.getElem_mem jl)
 rw [XQ jl] at hw
 cases hu:(wk ws j).used with
 | false=>
   rw [if_pos hu] at h
   repeat' (first | refine PJ (v:= .bool false) jl (by simp [tW,hu]) ?_ | exact B7 h | refine BW ?_ | refine F8 (by first | with_reducible assumption | omega) ?_ | refine DW (by first | with_reducible assumption | omega) rfl ?_ | refine B6 ?_ | refine AS (by omega) ?_ | refine CT ?_)
 | true=>
   rw [if_neg (by rw [hu];decide)] at h
   repeat' (first | refine PJ (v:= .bool true) jl (by simp [tW,hu]) ?_ | refine C6 hw (by omega) ?_ | refine BW ?_ | refine F8 (by first | with_reducible assumption | omega) ?_ | refine DW (by first | with_reducible assumption | omega) rfl ?_ | refine BY ?_ | refine AX ?_ | refine BP ?_ | refine AS (by omega) ?_ | refine jG (by omega) (by decide) rfl ?_ | refine AW (fun _=> ?_) (fun _=> ?_) | refine CT ?_)
   ·rename_i hh
    rw [if_pos hh] at h
    exact K3 (f:=tW) jl (y:=⟨false,0⟩) rfl h
   ·rename_i hh hs
    rw [if_neg hh,if_pos hs] at h
    exact h
   ·rename_i hh hs
    rw [if_neg hh,if_neg hs] at h
    exact h
theorem WD {os:List AU} {ws:List Wk} {cc d:List T} {kind k b c:Int} {s:ByteArray} {K:J2} (hol:os.length=8) (hwl:ws.length=8) (hk:F64 k) (hwf: ∀w∈ws,F64 w.target) (h7:kind=7→K [I (KJ os ws k).2.code,I (KJ os ws k).2.val] [tR tW (KJ os ws k).1,tI (KJ os ws k).2.freed]) (h:kind≠7→K [I (GO os ws kind k).2.code,I (GO os ws kind k).2.val] [tR tW (GO os ws kind k).1,tI (GO os ws kind k).2.freed]):cl2 ⟨Try.prog,w0⟩ 126 GG.sg [I kind,I k,I b,I c, .string s] [tR tO os,tR tW ws,cc,d] K:=by
 refine GG.cl2 ?_
 unfold GG.txt
 simp only [AG,AK,AN,AM,AI,AD,AE,AP,AO,AJ,AQ,AR,AL,AH,BE,BJ,BH,BG,BK,BI,BF,A4,A8,A7,A6,A5,AZ]
 refine BP (AW (fun he=> ?_) fun he=> ?_)
 ·replace h:=h7 he
  clear h7
  unfold KJ at h
  refine CO hk (by omega) (AX (AW (fun hs=> ?_) fun hs=> ?_))
  ·rw [if_pos hs] at h;exact h
  rw [if_neg hs] at h
  refine BD (fun i=>[iv i,I kind,I k,I b,I c, .string s,I 0,I 0]) (fun _=>[tR tW ws]) ws.length (fun i=> ∀j,j<i→(!(wk ws j).used)=false) rfl rfl (fun k hk=>by omega) (fun R i hi hP hR=> ?_)
  simp only [AG,AK,AN,AM,AI,AD,AE,AP,AO,AJ,AQ,AR,AL,AH,BE,BJ,BH,BG,BK,BI,BF,A4,A8,A7,A6,A5,AZ]
  refine AX (AW (fun hlt=> ?_) fun hge=> ?_)
  ·have hlt:i<ws.length:=by omega
   cases hv:(wk ws i).used with
   | false=>
     refine AS hlt (PJ (v:= .bool false) hlt (by simp [tW,hv]) (CT (B6 (AS hlt ?_))))
     unfold IE at h
     rw [L5 hlt (by rw [hv];rfl) hP,if_neg (by omega),Int.toNat_natCast] at h
     exact K3 (f:=tW) hlt (y:=⟨true,k⟩) rfl h
   | true=>
     refine AS hlt (PJ (v:= .bool true) hlt (by simp [tW,hv]) (CT (BY (BA (by omega) (hR hlt fun k hk=> ?_)))))
     rcases Nat.lt_succ_iff_lt_or_eq.1 hk with h3 | rfl
     ·exact hP k h3
     ·rw [hv];rfl
  ·have:i=ws.length:=by omega
   subst this
   unfold IE at h
   rw [PB hP,if_pos (by decide)] at h;exact h
 ·replace h:=h he
  clear h7
  unfold GO at h
  refine H8 ⟨by omega,by omega⟩ (DS (D7 ?_))
  by_cases hb: ¬(0≤k∧k≤(ws.length:Int)-1)
  ·rw [if_pos hb] at h
   repeat' (first | exact h | refine BW ?_ | refine NU (by first | with_reducible assumption | omega) ?_ | refine DX (by first | with_reducible assumption | omega) rfl ?_ | refine B6 ?_)
  rw [if_neg hb] at h
  obtain ⟨j,rfl⟩: ∃j:Nat,k=j:=⟨k.toNat,by omega⟩
  rw [Int.toNat_natCast] at h
  have jl:j<ws.length:=by omega
  have hw:=hwf _ (List.getElem_mem jl)
  rw [XQ jl] at hw
  cases hu:(wk ws j).used with
  | false=>
    rw [if_pos hu] at h
    repeat' (first | refine PJ (v:= .bool false) jl (by simp [tW,hu]) ?_ | exact h | refine BW ?_ | refine F8 (by first | with_reducible assumption | omega) ?_ | refine DW (by first | with_reducible assumption | omega) rfl ?_ | refine B6 ?_ | refine AS (by omega) ?_ | refine CT ?_)
  | true=>
    rw [if_neg (by rw [hu];decide)] at h
    repeat' (first | refine PJ (v:= .bool true) jl (by simp [tW,hu]) ?_ | refine CO hw (by omega) ?_ | refine BW ?_ | refine F8 (by first | with_reducible assumption | omega) ?_ | refine DW (by first | with_reducible assumption | omega) rfl ?_ | refine BY ?_ | refine AX ?_ | refine BP ?_ | refine AS (by omega) ?_ | refine jG (by omega) (by decide) rfl ?_ | refine AW (fun _=> ?_) (fun _=> ?_) | refine CT ?_)
    ·rename_i hh
     rw [if_pos hh] at h
     exact K3 (f:=tW) jl (y:=⟨false,0⟩) rfl h
    ·rename_i hh hs
     rw [if_neg hh,if_pos hs] at h
     exact h
    ·rename_i hh hs
     rw [if_neg hh,if_neg hs] at h
     exact h
end Go.Proofs.Ytklmcfpgdfibnaa.P
