/- A part of the proof. -/
import Derived.Test.YtklmcfpgdfibnaaRtHpI
namespace Go.Proofs.Ytklmcfpgdfibnaa.P
open Go Go.Proofs.Ytklmcfpgdfibnaa Go.Proofs.Ytklmcfpgdfibnaa.Eng
set_option linter.unusedVariables false
set_option maxHeartbeats 4000000
set_option linter.unusedVariables false
set_option linter.unusedSimpArgs false
attribute [local irreducible] prP gP gE gF AX ixW ldc ldg ldl stc stg scW mkW apW BN cl2 BV EN CJ
variable {w0:World}
def M5 (n:Nat) (p:Nat→Bool):Int:=match (List.range n).find? p with
 | some i=>(i:Int)
 | none=> -1
theorem MV {n i:Nat} {p:Nat→Bool} (hi:i<n) (h:p i=true) (hb: ∀k,k<i→p k=false):M5 n p=i:=by
 have:(List.range n).find? p=some i:=List.find?_range_eq_some.2 ⟨h,List.mem_range.2 hi,fun j hj=>by rw [hb j hj];rfl⟩
 rw [M5,this]
theorem QM {n:Nat} {p:Nat→Bool} (hb: ∀k,k<n→p k=false):M5 n p= -1:=by
 have:(List.range n).find? p=none:=List.find?_range_eq_none.2 fun j hj=>by rw [hb j hj];rfl
 rw [M5,this]
theorem SD (n:Nat) (p:Nat→Bool):(M5 n p= -1∧ ∀k,k<n→p k=false)∨ ∃i,i<n∧M5 n p=(i:Int)∧p i=true∧ ∀k,k<i→p k=false:=by
 cases h:(List.range n).find? p with
 | none=>exact .inl ⟨by rw [M5,h],fun k hk=>by have:=List.find?_range_eq_none.1 h k hk;simpa using this⟩
 | some i=>
   obtain ⟨h1,h2,h3⟩:=List.find?_range_eq_some.1 h
   exact .inr ⟨i,List.mem_range.1 h2,by rw [M5,h],h1,fun k hk=>by have:=h3 k hk;simpa using this⟩
def IG (os:List AV) (i:Nat):Bool:= !(ob os i).live&&decide ((ob os i).gen<999)
def CD (os:List AV):Int:=M5 os.length (IG os)
def IT (ws:List Wk):Int:=M5 ws.length fun i=> !(wk ws i).used
theorem UH {os:List AV} {b c d:List T} {K:J2} (hol:os.length=8) (h:K [I (CD os)] []):cl2 ⟨Try.prog,w0⟩ 75 FF.sg [] [tR tO os,b,c,d] K:=by
 refine FF.cl2 ?_
 unfold FF.txt
 simp only [AH,AR,AN,AS,AJ,AD,AG,AP,AO,AK,AM,AL,AI,AQ,BD,BI,BH,BJ,BG,BF,BE,A5,AZ,A4,A6,A7,AY]
 refine BC (fun i=>[iv os.length,iv i]) (fun _=>[]) os.length (fun i=> ∀k,k<i→IG os k=false) rfl rfl (fun k hk=>by omega) (fun R i hi hP hR=> ?_)
 simp only [AH,AR,AN,AS,AJ,AD,AG,AP,AO,AK,AM,AL,AI,AQ,BD,BI,BH,BJ,BG,BF,BE,A5,AZ,A4,A6,A7,AY]
 refine A8 (AW (fun hlt=> ?_) fun hge=> ?_)
 ·have hlt:i<os.length:=by omega
  refine AT hlt (KN hlt ?_)
  simp only [X6,YX]
  have no:IG os i=false→R [iv os.length,iv (i+1)] []:=fun hn=>hR hlt fun k hk=>(Nat.lt_succ_iff_lt_or_eq.1 hk).elim (hP k) fun he=>he ▸ hn
  have yes:IG os i=true→K [iv i] []:=fun hy=>by unfold CD at h;rw [MV hlt hy hP] at h;exact h
  cases hv:(ob os i).live with
  | false=>
    repeat' (first | refine BK ?_ | refine IZ ?_ | refine H8 (by first | with_reducible assumption | omega) ?_ | refine C6 (by first | with_reducible assumption | omega) rfl ?_ | refine PX rfl ?_ | refine A8 ?_ | refine BA (by omega) ?_ | refine AW (fun _=> ?_) (fun _=> ?_) | refine B4 ?_)
    ·exact yes (by simp [IG,hv];omega)
    ·exact no (by simp [IG,hv];omega)
  | true=>
    repeat' (first | refine BK ?_ | refine JZ ?_ | refine H8 (by first | with_reducible assumption | omega) ?_ | refine C6 (by first | with_reducible assumption | omega) rfl ?_ | refine TJ rfl ?_ | refine BU ?_ | refine A8 ?_ | refine BA (by omega) ?_ | refine B4 ?_)
    all_goals exact no (by simp [IG,hv])
 ·have:i=os.length:=by omega
  subst this
  unfold CD at h
  rw [QM hP] at h;exact h
theorem UD {os:List AV} {b c d:List T} {K:J2} (hol:os.length=8) (h:K [I (CD os)] []):cl2 ⟨Try.prog,w0⟩ 152 EZ.sg [] [tR tO os,b,c,d] K:=by
 refine EZ.cl2 ?_
 unfold EZ.txt
 simp only [AH,AR,AN,AS,AJ,AD,AG,AP,AO,AK,AM,AL,AI,AQ,BD,BI,BH,BJ,BG,BF,BE,A5,AZ,A4,A6,A7,AY]
 refine BC (fun i=>[iv i]) (fun _=>[]) os.length (fun i=> ∀k,k<i→IG os k=false) rfl rfl (fun k hk=>by omega) (fun R i hi hP hR=> ?_)
 simp only [AH,AR,AN,AS,AJ,AD,AG,AP,AO,AK,AM,AL,AI,AQ,BD,BI,BH,BJ,BG,BF,BE,A5,AZ,A4,A6,A7,AY]
 refine A8 (BK (I4 (fun hlt=> ?_) fun hge=> ?_))
 ·have hlt':i<os.length:=by omega
  refine A8 (C6 hlt rfl (C3 (by omega) ?_))
  have no:IG os i=false→R [iv (i+1)] []:=fun hn=>hR hlt' fun k hk=>(Nat.lt_succ_iff_lt_or_eq.1 hk).elim (hP k) fun he=>he ▸ hn
  have yes:IG os i=true→K [iv i] []:=fun hy=>by unfold CD at h;rw [MV hlt' hy hP] at h;exact h
  refine AT hlt' ?_
  cases hv:(ob os i).live with
  | false=>
    refine KR (v:= .bool false) hlt' (by simp [tO,hv]) (B4 ?_)
    repeat' (first | refine AT hlt' ?_ | refine HA (v:=I (ob os i).gen) hlt' (by decide) rfl ?_ | refine BK ?_ | refine IZ ?_ | refine PX rfl ?_ | refine A8 ?_ | refine BA (by omega) ?_ | refine AW (fun _=> ?_) (fun _=> ?_))
    ·exact yes (by simp [IG,hv];omega)
    ·exact no (by simp [IG,hv];omega)
  | true=>
    refine KR (v:= .bool true) hlt' (by simp [tO,hv]) (B4 ?_)
    repeat' (first | refine BK ?_ | refine JZ ?_ | refine TJ rfl ?_ | refine BU ?_ | refine BA (by omega) ?_)
    all_goals exact no (by simp [IG,hv])
 ·refine C2 hge rfl (BU ?_)
  have:i=os.length:=by omega
  subst this
  unfold CD at h
  rw [QM hP] at h;exact h
theorem UK {ws:List Wk} {K:J2} (hol:ws.length=8) (h:K [I (IT ws)] []):cl2 ⟨Try.prog,w0⟩ 165 FE.sg [] [tR tW ws] K:=by
 refine FE.cl2 ?_
 unfold FE.txt
 simp only [AH,AR,AN,AS,AJ,AD,AG,AP,AO,AK,AM,AL,AI,AQ,BD,BI,BH,BJ,BG,BF,BE,A5,AZ,A4,A6,A7,AY]
 refine BC (fun i=>[iv ws.length,iv i]) (fun _=>[]) ws.length (fun i=> ∀k,k<i→(!(wk ws k).used)=false) rfl rfl (fun k hk=>by omega) (fun R i hi hP hR=> ?_)
 simp only [AH,AR,AN,AS,AJ,AD,AG,AP,AO,AK,AM,AL,AI,AQ,BD,BI,BH,BJ,BG,BF,BE,A5,AZ,A4,A6,A7,AY]
 refine A8 (AW (fun hlt=> ?_) fun hge=> ?_)
 ·have hlt:i<ws.length:=by omega
  refine AT hlt (WH hlt ?_)
  simp only [lO]
  cases hv:(wk ws i).used with
  | false=>
    refine B4 (B2 ?_)
    unfold IT at h
    rw [MV hlt (by rw [hv];rfl) hP] at h;exact h
  | true=>
    refine B4 (BU (BA (by omega) (hR hlt fun k hk=> ?_)))
    rcases Nat.lt_succ_iff_lt_or_eq.1 hk with h3 | rfl
    ·exact hP k h3
    ·rw [hv];rfl
 ·have:i=ws.length:=by omega
  subst this
  unfold IT at h
  rw [QM hP] at h;exact h
theorem B8 {n:Int} {K:J2} (h:K [I n,I 0] [[]]):cl2 ⟨Try.prog,w0⟩ 107 BY.sg [I n] [] K:=BY.cl2 h
def J6 (g s:Int):AV:=⟨true,g,s,1,0,1,PQ,false⟩
def GQ (os:List AV) (ss:List ByteArray) (s:ByteArray):List AV×List ByteArray×An:=
 if ¬(1≤(s.size:Int)∧(s.size:Int)≤8) then (os,ss,⟨2,0,[]⟩)
 else if CD os<0 then (os,ss,⟨3,0,[]⟩)
 else if at_ ss s<0∧6≤ss.length then (os,ss,⟨6,0,[]⟩)
 else (os.set (CD os).toNat (J6 (w64 ((ob os (CD os).toNat).gen+1)) (if at_ ss s<0 then ss.length else at_ ss s)),(if at_ ss s<0 then ss++[s] else ss),⟨0,CE (CD os) (w64 ((ob os (CD os).toNat).gen+1)),[]⟩)
theorem MO {os:List AV} (h: ¬CD os<0):(CD os).toNat<os.length∧CD os=((CD os).toNat:Int)∧IG os (CD os).toNat=true:=by
 rcases SD os.length (IG os) with ⟨h1,_⟩ | ⟨i,h1,h2,h3,_⟩
 ·unfold CD at h;omega
 ·have e:CD os=i:=h2
  have e2:(CD os).toNat=i:=by omega
  rw [e2];exact ⟨h1,e,h3⟩
theorem aE {os:List AV} {b c:List T} {ss:List ByteArray} {s:ByteArray} {K:J2} (hol:os.length=8) (hsl:ss.length≤6) (h:K [I (GQ os ss s).2.2.code,I (GQ os ss s).2.2.val] [tI (GQ os ss s).2.2.freed,tR tO (GQ os ss s).1,tS (GQ os ss s).2.1]):cl2 ⟨Try.prog,w0⟩ 144 DU.sg [.string s] [tR tO os,b,c,tS ss] K:=by
 refine DU.cl2 ?_
 unfold DU.txt
 refine UH hol (Q2 (by omega) (BQ ?_))
 simp only [AH,AR,AN,AS,AJ,AD,AG,AP,AO,AK,AM,AL,AI,AQ,BD,BI,BH,BJ,BG,BF,BE,A5,AZ,A4,A6,A7,AY]
 unfold GQ at h
 refine US (GR (DK (AW (fun hb=> ?_) fun hb=> ?_)))
 ·rw [if_pos hb] at h
  exact B8 h
 rw [if_neg hb] at h
 refine A8 (AW (fun hf=> ?_) fun hf=> ?_)
 ·rw [if_pos hf] at h
  exact B8 h
 rw [if_neg hf] at h
 obtain ⟨f1,f2,f3⟩:=MO hf
 refine A8 ?_
 by_cases ha:at_ ss s<0
 ·by_cases h6:6≤ss.length
  ·rw [if_pos ⟨ha,h6⟩] at h
   repeat' (first | exact B8 h | refine BK ?_ | refine H8 (by first | with_reducible assumption | omega) ?_ | refine C6 (by first | with_reducible assumption | omega) rfl ?_ | refine C3 (by first | with_reducible assumption | omega) ?_ | refine GY ?_)
   all_goals omega
  ·rw [if_neg (by omega),if_pos ha,if_pos ha] at h
   repeat' (first | refine BK ?_ | refine H8 (by first | with_reducible assumption | omega) ?_ | refine C6 (by first | with_reducible assumption | omega) rfl ?_ | refine C3 (by first | with_reducible assumption | omega) ?_ | refine DM (by first | with_reducible assumption | omega) ?_ | refine A8 ?_ | refine GY ?_ | refine GJ ?_ | refine O7 (by omega) (by omega) ?_ | refine HA (by omega) (by decide) rfl ?_ | refine EJ (by first | exact MI _ | exact ZE _ | exact Z6 _ | exact p7 _ | rfl) (by omega) ?_)
   exact LD (y:=J6 (w64 ((ob os (CD os).toNat).gen+1)) ss.length) (by omega) rfl (JD (by rw [←ZS] at h;exact h))
 ·rw [if_neg (by omega),if_neg ha,if_neg ha] at h
  repeat' (first | refine BK ?_ | refine ML (by first | with_reducible assumption | omega) ?_ | refine C2 (by first | with_reducible assumption | omega) rfl ?_ | refine BU ?_ | refine DM (by first | with_reducible assumption | omega) ?_ | refine A8 ?_ | refine GJ ?_ | refine O7 (by omega) (by omega) ?_ | refine HA (by omega) (by decide) rfl ?_)
  exact LD (y:=J6 (w64 ((ob os (CD os).toNat).gen+1)) (at_ ss s)) (by omega) rfl (JD h)
theorem oZ {l:List ByteArray} {x s:ByteArray} (h:x∉l):at_ (l++[x]) s=if x=s then (l.length:Int) else at_ l s:=by
 unfold at_
 by_cases hs:s∈l
 ·rw [if_pos (List.mem_append_left _ hs),if_pos hs,List.idxOf_append,if_pos hs,if_neg (show ¬x=s from fun he=>h (he ▸ hs))]
 ·by_cases hx:x=s
  ·rw [if_pos (by simp [hx]),if_pos hx,List.idxOf_append,if_neg hs]
   simp [hx]
  ·rw [if_neg (by simp [hs,Ne.symm hx]),if_neg hx,if_neg hs]
theorem VN {os:List AV} {b c:List T} {ss:List ByteArray} {s:ByteArray} {k1 k2 k3 k4:Int} {K:J2} (hol:os.length=8) (hss:KX ss) (h:K [I (GQ os ss s).2.2.code,I (GQ os ss s).2.2.val] [tR tO (GQ os ss s).1,tS (GQ os ss s).2.1,tI (GQ os ss s).2.2.freed]):cl2 ⟨Try.prog,w0⟩ 123 F4.sg [I k1,I k2,I k3,I k4, .string s] [tR tO os,b,c,tS ss] K:=by
 have hsl:=hss.len
 refine F4.cl2 ?_
 unfold F4.txt
 unfold GQ at h
 refine US (D9 (DK (AW (fun hb=> ?_) fun hb=> ?_)))
 ·rw [if_pos hb] at h
  exact h
 rw [if_neg hb] at h
 refine UD hol (A8 (AW (fun hf=> ?_) fun hf=> ?_))
 ·rw [if_pos hf] at h
  exact h
 rw [if_neg hf] at h
 obtain ⟨f1,f2,f3⟩:=MO hf
 refine BC (fun i=>[I (CD os),I (at_ (ss.take i) s),iv i,I k1,I k2,I k3,I k4, .string s,I 0,I 0]) (fun _=>[tR tO os,tS ss]) ss.length (fun i=>True) rfl rfl trivial (fun R i hi hP hR=> ?_)
 simp only [AH,AR,AN,AS,AJ,AD,AG,AP,AO,AK,AM,AL,AI,AQ,BD,BI,BH,BJ,BG,BF,BE,A5,AZ,A4,A6,A7,AY]
 simp only [BE,rS,sL,tH]
 refine A8 (AW (fun hlt=> ?_) fun hge=> ?_)
 ·have hlt:i<ss.length:=by omega
  replace hR:=hR hlt trivial
  have hone:=hss.one i hlt
  rw [List.take_succ_eq_append_getElem hlt,R8 hlt,oZ hone] at hR
  refine BQ (AT hlt (ldS hlt (bE (AW (fun he=> ?_) fun he=> ?_))))
  ·rw [if_pos he,List.length_take,Nat.min_eq_left hi] at hR
   exact BA (by omega) hR
  ·rw [if_neg he] at hR
   exact BA (by omega) hR
 ·have:i=ss.length:=by omega
  subst this
  rw [List.take_length]
  refine A8 ?_
  by_cases ha:at_ ss s<0
  ·by_cases h6:6≤ss.length
   ·rw [if_pos ⟨ha,h6⟩] at h
    repeat' (first | exact h | refine BK ?_ | refine H8 (by first | with_reducible assumption | omega) ?_ | refine C6 (by first | with_reducible assumption | omega) rfl ?_ | refine C3 (by first | with_reducible assumption | omega) ?_ | refine GY ?_)
    all_goals omega
   ·rw [if_neg (by omega),if_pos ha,if_pos ha] at h
    refine BK (BK (BK (H8 ha (LG (C6 ha rfl (DM (by omega) (BQ (A8 (C3 ha (EJ rfl (by omega) ?_))))))))))
    repeat' (first | refine I5 ?_ | refine GJ ?_ | refine O7 (by omega) (by omega) ?_ | refine HA (by omega) (by decide) rfl ?_ | simp only [AH,AR,AN,AS,AJ,AD,AG,AP,AO,AK,AM,AL,AI,AQ,BD,BI,BH,BJ,BG,BF,BE,A5,AZ,A4,A6,A7,AY])
    rw [←ZS] at h
    exact LD (y:=J6 (w64 ((ob os (CD os).toNat).gen+1)) ss.length) (by omega) rfl (IC h)
  ·rw [if_neg (by omega),if_neg ha,if_neg ha] at h
   refine BK (BK (BK (ML ha (C2 ha rfl (BU (BQ (A8 (DM (by omega) ?_))))))))
   repeat' (first | refine I5 ?_ | refine GJ ?_ | refine O7 (by omega) (by omega) ?_ | refine HA (by omega) (by decide) rfl ?_ | simp only [AH,AR,AN,AS,AJ,AD,AG,AP,AO,AK,AM,AL,AI,AQ,BD,BI,BH,BJ,BG,BF,BE,A5,AZ,A4,A6,A7,AY])
   exact LD (y:=J6 (w64 ((ob os (CD os).toNat).gen+1)) (at_ ss s)) (by omega) rfl (IC h)
def P2 (r:List AV×List Int×List Int):List AV×List Int×An:=(r.1,r.2.1,⟨0,0,r.2.2⟩)
def GZ (os:List AV) (buf:List Int) (kind id:Int):List AV×List Int×An:=
 if AB os id<0 then (os,buf,⟨1,0,[]⟩) else
 if kind=2 then
  if (ob os (AB os id).toNat).holds=20 then (os,buf,⟨4,0,[]⟩) else (EP (os.set (AB os id).toNat {ob os (AB os id).toNat with holds:=(ob os (AB os id).toNat).holds+1}) id,buf,⟨0,0,[]⟩)
 else if kind=5 then
  if (ob os (AB os id).toNat).roots=20 then (os,buf,⟨4,0,[]⟩) else (EP (os.set (AB os id).toNat {ob os (AB os id).toNat with roots:=(ob os (AB os id).toNat).roots+1}) id,buf,⟨0,0,[]⟩)
 else if kind=3 then
  if (ob os (AB os id).toNat).holds=0 then (os,buf,⟨5,0,[]⟩) else P2 (FU (os.set (AB os id).toNat {ob os (AB os id).toNat with holds:=(ob os (AB os id).toNat).holds-1}) buf [id])
 else
  if (ob os (AB os id).toNat).roots=0 then (os,buf,⟨5,0,[]⟩) else P2 (FU (os.set (AB os id).toNat {ob os (AB os id).toNat with roots:=(ob os (AB os id).toNat).roots-1}) buf [id])
theorem stH {os:List AV} {k:Nat} {v:Int} {K:List T→Prop} (hk:k<os.length) (h:K (tR tO (os.set k {ob os k with holds:=v}))):stc (tR tO os) [] (AA (iv (AA (iv k)*8+3))) (I v) K:=by
 rw [A9 (AA (iv k)*8+3), ←DF hk] at*;exact YI hk h
theorem stR {os:List AV} {k:Nat} {v:Int} {K:List T→Prop} (hk:k<os.length) (h:K (tR tO (os.set k {ob os k with roots:=v}))):stc (tR tO os) [] (AA (iv (AA (iv k)*8+4))) (I v) K:=by
 rw [A9 (AA (iv k)*8+4), ←DF hk] at*;exact O0 hk (by decide) rfl rfl h
theorem VF {os:List AV} {buf:List Int} {b d:List T} {kind id:Int} {K:J2} (hol:os.length=8) (hof: ∀o∈os,OF o) (hb:buf.length≤100) (hid:F64 id) (hkd:kind=2∨kind=3∨kind=5∨kind=6) (hr: ∀i,(0≤(ob os i).holds∧(ob os i).holds≤20)∧(0≤(ob os i).roots∧(ob os i).roots≤20)) (h:K [I (GZ os buf kind id).2.2.code,I (GZ os buf kind id).2.2.val] [tI (GZ os buf kind id).2.2.freed,tR tO (GZ os buf kind id).1,tI (GZ os buf kind id).2.1]):cl2 ⟨Try.prog,w0⟩ 145 C5.sg [I kind,I id] [tR tO os,b,tI buf,d] K:=by
 refine C5.cl2 ?_
 unfold C5.txt
 simp only [AH,AR,AN,AS,AJ,AD,AG,AP,AO,AK,AM,AL,AI,AQ,BD,BI,BH,BJ,BG,BF,BE,A5,AZ,A4,A6,A7,AY]
 unfold GZ at h
 refine CM hid (by omega) (A8 (AW (fun hs=> ?_) fun hs=> ?_))
 ·rw [if_pos hs] at h
  exact B8 h
 rw [if_neg hs] at h
 have hkb:=BO (l:=os) (id:=id) (by omega)
 obtain ⟨k,hkk⟩: ∃k,(AB os id).toNat=k:=⟨_,rfl⟩
 have hkI:AB os id=(k:Int):=by omega
 rw [hkk] at h hkb
 have hkl:k<os.length:=by omega
 have hrk:=hr k
 have ho:=hof _ (H9 (l:=os) (i:=k) (by omega))
 obtain ⟨⟨r1,r2⟩,r3,r4⟩:=hrk
 rw [BD,hkI]
 refine AT (by omega) (BQ ?_)
 simp only [AH,AR,AN,AS,AJ,AD,AG,AP,AO,AK,AM,AL,AI,AQ,BD,BI,BH,BJ,BG,BF,BE,A5,AZ,A4,A6,A7,AY]
 rcases hkd with rfl | rfl | rfl | rfl
 ·simp only [if_true] at h
  repeat' (first | refine BK ?_ | refine NU ?_ | refine QV ?_ | refine C6 (by first | with_reducible assumption | omega) rfl ?_ | refine C2 (by first | with_reducible assumption | omega) rfl ?_ | refine B2 ?_ | refine BU ?_ | refine BM ?_ | refine DT ⟨by omega,by omega⟩ ?_ | refine HA (by omega) (by decide) rfl ?_ | refine AW (fun _=> ?_) (fun _=> ?_))
  ·rename_i h20
   rw [if_pos h20] at h
   exact B8 h
  ·rename_i h20
   rw [if_neg h20] at h
   exact stH hkl (PT hid (by simpa using hol) h)
 ·simp only [if_neg (show ¬(3:Int)=2 by decide),if_neg (show ¬(3:Int)=5 by decide),if_true] at h
  repeat' (first | refine BK ?_ | refine NU ?_ | refine C2 (by first | with_reducible assumption | omega) rfl ?_ | refine BU ?_ | refine BM ?_ | refine DT ⟨by omega,by omega⟩ ?_ | refine HA (by omega) (by decide) rfl ?_ | refine AW (fun _=> ?_) (fun _=> ?_))
  ·rename_i h20
   rw [if_pos h20] at h
   exact B8 h
  ·rename_i h20
   rw [if_neg h20] at h
   exact stH hkl (PA (buf:=buf) (ids:=[id]) (by simpa using hol) (KJ hof ⟨ho.gen,ho.len,ho.fld⟩) (by omega) (by simp) (by simpa using hid) h)
 ·simp only [if_neg (show ¬(5:Int)=2 by decide),if_true] at h
  repeat' (first | refine BK ?_ | refine NU ?_ | refine QV ?_ | refine C6 (by first | with_reducible assumption | omega) rfl ?_ | refine C2 (by first | with_reducible assumption | omega) rfl ?_ | refine B2 ?_ | refine BM ?_ | refine DT ⟨by omega,by omega⟩ ?_ | refine AT (by omega) ?_ | refine HA (by omega) (by decide) rfl ?_ | refine AW (fun _=> ?_) (fun _=> ?_))
  ·rename_i h20
   rw [if_pos h20] at h
   exact B8 h
  ·rename_i h20
   rw [if_neg h20] at h
   exact stR hkl (PT hid (by simpa using hol) h)
 ·simp only [if_neg (show ¬(6:Int)=2 by decide),if_neg (show ¬(6:Int)=5 by decide),if_neg (show ¬(6:Int)=3 by decide)] at h
  repeat' (first | refine BK ?_ | refine NU ?_ | refine C2 (by first | with_reducible assumption | omega) rfl ?_ | refine B2 ?_ | refine BU ?_ | refine BM ?_ | refine DT ⟨by omega,by omega⟩ ?_ | refine AT (by omega) ?_ | refine HA (by omega) (by decide) rfl ?_ | refine AW (fun _=> ?_) (fun _=> ?_))
  ·rename_i h20
   rw [if_pos h20] at h
   exact B8 h
  ·rename_i h20
   rw [if_neg h20] at h
   exact stR hkl (PA (buf:=buf) (ids:=[id]) (by simpa using hol) (KJ hof ⟨ho.gen,ho.len,ho.fld⟩) (by omega) (by simp) (by simpa using hid) h)
theorem u7 {os:List AV} {k:Nat} {v:Int} {K:List T→Prop} (hk:k<os.length) (h:K (tR tO (os.set k {ob os k with holds:=v}))):stc (tR tO os) [] (AA (iv k)*8+3) (I v) K:=by
 rw [←DF hk] at h;exact YI hk h
theorem vI {os:List AV} {k:Nat} {v:Int} {K:List T→Prop} (hk:k<os.length) (h:K (tR tO (os.set k {ob os k with roots:=v}))):stc (tR tO os) [] (AA (iv k)*8+4) (I v) K:=by
 rw [←DF hk] at h;exact O0 hk (by decide) rfl rfl h
theorem St.set {h:Hp} {os:List AV} (st:St h) (hl:os.length=h.AE.length) (ho: ∀o∈os,OF o):St {h with AE:=os}:=⟨by have:=st.ol;simp only;omega,st.wl,st.sl,st.bl,ho,st.ss,st.wf,st.bf⟩
theorem XP {h:Hp} {kind id b c:Int} {s:ByteArray} {K:J2} (st:St h) (hid:F64 id) (hkd:kind=2∨kind=3∨kind=5∨kind=6) (hr: ∀i,(0≤(ob h.AE i).holds∧(ob h.AE i).holds≤20)∧(0≤(ob h.AE i).roots∧(ob h.AE i).roots≤20)) (hK:K [I (GZ h.AE h.buffer kind id).2.2.code,I (GZ h.AE h.buffer kind id).2.2.val] [tR tO (GZ h.AE h.buffer kind id).1,tR tW h.B1,tI (GZ h.AE h.buffer kind id).2.1,tS h.sites,tI (GZ h.AE h.buffer kind id).2.2.freed]):cl2 ⟨Try.prog,w0⟩ 124 G7.sg [I kind,I id,I b,I c, .string s] (trees h) K:=by
 refine G7.cl2 ?_
 unfold G7.txt
 obtain ⟨os,ws,buf,ss⟩:=h
 have hol:os.length=8:=st.ol
 have hof: ∀o∈os,OF o:=st.of
 simp only at hr hK
 simp only [trees]
 simp only [AH,AR,AN,AS,AJ,AD,AG,AP,AO,AK,AM,AL,AI,AQ,BD,BI,BH,BJ,BG,BF,BE,A5,AZ,A4,A6,A7,AY]
 unfold GZ at hK
 refine CL hid (by omega) (A8 (AW (fun hs=> ?_) fun hs=> ?_))
 ·rw [if_pos hs] at hK
  exact hK
 rw [if_neg hs] at hK
 have hkb:=BO (l:=os) (id:=id) (by omega)
 obtain ⟨k,hkk⟩: ∃k,(AB os id).toNat=k:=⟨_,rfl⟩
 have hkI:AB os id=(k:Int):=by omega
 rw [hkk] at hK hkb
 have hkl:k<os.length:=by omega
 have hrk:=hr k
 have ho:=hof _ (H9 (l:=os) (i:=k) (by omega))
 obtain ⟨⟨r1,r2⟩,r3,r4⟩:=hrk
 rw [BD,hkI]
 refine AT (by omega) (KN hkl (BQ (BQ ?_)))
 simp only [X6,YX,fW,gD,fV,bC,kX]
 have gn: ∀{os':List AV} {K:J2},os'.length=os.length→(∀o∈os',OF o)→K [] [tR tO (EP os' id),tR tW ws,tI buf,tS ss]→cl2 ⟨Try.prog,w0⟩ 153 FT.sg [I id] [tR tO os',tR tW ws,tI buf,tS ss] K:=fun hl ho hk=>T3 (St.set st hl ho) hid hk
 have ls: ∀{os':List AV} {K:J2},os'.length=os.length→(∀o∈os',OF o)→K [] [tR tO (FU os' buf [id]).1,tR tW ws,tI (FU os' buf [id]).2.1,tS ss,tI (FU os' buf [id]).2.2]→cl2 ⟨Try.prog,w0⟩ 154 GF.sg [] [tR tO os',tR tW ws,tI buf,tS ss,tI [id]] K:=fun hl ho hk=>TZ (St.set st hl ho) (by simp) (by simpa using hid) hk
 rcases hkd with rfl | rfl | rfl | rfl
 ·simp only [if_true] at hK
  by_cases h20:(ob os k).holds=20
  ·rw [if_pos h20] at hK
   repeat' (first | refine BK ?_ | refine IZ ?_ | refine C6 (by first | with_reducible assumption | omega) rfl ?_ | refine C3 (by first | with_reducible assumption | omega) ?_ | refine GY ?_ | refine BM ?_ | simp only [AH,AR,AN,AS,AJ,AD,AG,AP,AO,AK,AM,AL,AI,AQ,BD,BI,BH,BJ,BG,BF,BE,A5,AZ,A4,A6,A7,AY])
   exact hK
  ·rw [if_neg h20] at hK
   repeat' (first | refine BQ ?_ | refine BK ?_ | refine IZ ?_ | refine JZ ?_ | refine C6 (by first | with_reducible assumption | omega) rfl ?_ | refine C2 (by first | with_reducible assumption | omega) rfl ?_ | refine B2 ?_ | refine BU ?_ | refine DM (by first | with_reducible assumption | omega) ?_ | refine GY ?_ | refine BM ?_ | refine DT ⟨by omega,by omega⟩ ?_ | refine AT (by omega) ?_ | simp only [AH,AR,AN,AS,AJ,AD,AG,AP,AO,AK,AM,AL,AI,AQ,BD,BI,BH,BJ,BG,BF,BE,A5,AZ,A4,A6,A7,AY])
   exact u7 hkl (gn (by simp) (KJ hof ⟨ho.gen,ho.len,ho.fld⟩) hK)
 ·simp only [if_neg (show ¬(3:Int)=2 by decide),if_neg (show ¬(3:Int)=5 by decide),if_true] at hK
  by_cases h20:(ob os k).holds=0
  ·rw [if_pos h20] at hK
   repeat' (first | refine BQ ?_ | refine BK ?_ | refine IZ ?_ | refine JZ ?_ | refine C6 (by first | with_reducible assumption | omega) rfl ?_ | refine C2 (by first | with_reducible assumption | omega) rfl ?_ | refine BU ?_ | refine C3 (by first | with_reducible assumption | omega) ?_ | refine A8 ?_ | refine BM ?_ | simp only [AH,AR,AN,AS,AJ,AD,AG,AP,AO,AK,AM,AL,AI,AQ,BD,BI,BH,BJ,BG,BF,BE,A5,AZ,A4,A6,A7,AY])
   exact hK
  ·rw [if_neg h20] at hK
   repeat' (first | refine BQ ?_ | refine BK ?_ | refine IZ ?_ | refine JZ ?_ | refine C6 (by first | with_reducible assumption | omega) rfl ?_ | refine C2 (by first | with_reducible assumption | omega) rfl ?_ | refine B2 ?_ | refine BU ?_ | refine DM (by first | with_reducible assumption | omega) ?_ | refine A8 ?_ | refine BM ?_ | refine DT ⟨by omega,by omega⟩ ?_ | refine AT (by omega) ?_ | simp only [AH,AR,AN,AS,AJ,AD,AG,AP,AO,AK,AM,AL,AI,AQ,BD,BI,BH,BJ,BG,BF,BE,A5,AZ,A4,A6,A7,AY])
   exact u7 hkl (ls (by simp) (KJ hof ⟨ho.gen,ho.len,ho.fld⟩) hK)
 ·simp only [if_neg (show ¬(5:Int)=2 by decide),if_true] at hK
  by_cases h20:(ob os k).roots=20
  ·rw [if_pos h20] at hK
   repeat' (first | refine BK ?_ | refine IZ ?_ | refine JZ ?_ | refine C6 (by first | with_reducible assumption | omega) rfl ?_ | refine C2 (by first | with_reducible assumption | omega) rfl ?_ | refine BU ?_ | refine C3 (by first | with_reducible assumption | omega) ?_ | refine GY ?_ | refine BM ?_ | simp only [AH,AR,AN,AS,AJ,AD,AG,AP,AO,AK,AM,AL,AI,AQ,BD,BI,BH,BJ,BG,BF,BE,A5,AZ,A4,A6,A7,AY])
   exact hK
  ·rw [if_neg h20] at hK
   repeat' (first | refine BQ ?_ | refine BK ?_ | refine IZ ?_ | refine JZ ?_ | refine C6 (by first | with_reducible assumption | omega) rfl ?_ | refine C2 (by first | with_reducible assumption | omega) rfl ?_ | refine B2 ?_ | refine BU ?_ | refine DM (by first | with_reducible assumption | omega) ?_ | refine GY ?_ | refine BM ?_ | refine DT ⟨by omega,by omega⟩ ?_ | refine AT (by omega) ?_ | simp only [AH,AR,AN,AS,AJ,AD,AG,AP,AO,AK,AM,AL,AI,AQ,BD,BI,BH,BJ,BG,BF,BE,A5,AZ,A4,A6,A7,AY])
   exact vI hkl (gn (by simp) (KJ hof ⟨ho.gen,ho.len,ho.fld⟩) hK)
 ·simp only [if_neg (show ¬(6:Int)=2 by decide),if_neg (show ¬(6:Int)=5 by decide),if_neg (show ¬(6:Int)=3 by decide)] at hK
  by_cases h20:(ob os k).roots=0
  ·rw [if_pos h20] at hK
   repeat' (first | refine BQ ?_ | refine BK ?_ | refine IZ ?_ | refine JZ ?_ | refine C6 (by first | with_reducible assumption | omega) rfl ?_ | refine C2 (by first | with_reducible assumption | omega) rfl ?_ | refine BU ?_ | refine C3 (by first | with_reducible assumption | omega) ?_ | refine A8 ?_ | refine BM ?_ | simp only [AH,AR,AN,AS,AJ,AD,AG,AP,AO,AK,AM,AL,AI,AQ,BD,BI,BH,BJ,BG,BF,BE,A5,AZ,A4,A6,A7,AY])
   exact hK
  ·rw [if_neg h20] at hK
   repeat' (first | refine BQ ?_ | refine BK ?_ | refine IZ ?_ | refine JZ ?_ | refine C6 (by first | with_reducible assumption | omega) rfl ?_ | refine C2 (by first | with_reducible assumption | omega) rfl ?_ | refine BU ?_ | refine DM (by first | with_reducible assumption | omega) ?_ | refine A8 ?_ | refine BM ?_ | refine DT ⟨by omega,by omega⟩ ?_ | refine AT (by omega) ?_ | simp only [AH,AR,AN,AS,AJ,AD,AG,AP,AO,AK,AM,AL,AI,AQ,BD,BI,BH,BJ,BG,BF,BE,A5,AZ,A4,A6,A7,AY])
   exact vI hkl (ls (by simp) (KJ hof ⟨ho.gen,ho.len,ho.fld⟩) hK)
end Go.Proofs.Ytklmcfpgdfibnaa.P
namespace Go.Proofs.Ytklmcfpgdfibnaa.P
open Go Go.Proofs.Ytklmcfpgdfibnaa Go.Proofs.Ytklmcfpgdfibnaa.Eng
set_option linter.unusedVariables false
set_option maxHeartbeats 4000000
set_option linter.unusedVariables false
set_option linter.unusedSimpArgs false
attribute [local irreducible] prP gP gE gF AX ixW ldc ldg ldl stc stg scW mkW apW BN cl2 BV EN CJ
variable {w0:World}
def HN (os:List AV) (buf:List Int) (a b c:Int):List AV×List Int×An:=
 if AB os a<0∨(c≠ -1∧AB os c<0) then (os,buf,⟨1,0,[]⟩) else
 if ¬(0≤b∧b≤2) then (os,buf,⟨2,0,[]⟩) else
 if gI (ob os (AB os a).toNat).field b.toNat= -1 then
  ((EP os c).set (AB os a).toNat {ob (EP os c) (AB os a).toNat with field:=(ob os (AB os a).toNat).field.set b.toNat c},buf,⟨0,0,[]⟩)
 else P2 (FU ((EP os c).set (AB os a).toNat {ob (EP os c) (AB os a).toNat with field:=(ob os (AB os a).toNat).field.set b.toNat c}) buf [gI (ob os (AB os a).toNat).field b.toNat])
theorem EW {l:List AV} {i k:Nat} {o:AV} (hk:k<l.length):ob (l.set k o) i=if i=k then o else ob l i:=by
 unfold ob
 by_cases h:i=k
 ·subst h
  rw [if_pos rfl,List.getD_eq_getElem?_getD,List.getElem?_set_self hk];rfl
 ·rw [if_neg h,List.getD_eq_getElem?_getD,List.getElem?_set_ne (Ne.symm h),List.getD_eq_getElem?_getD]
theorem W0 {os:List AV} {id:Int} {i:Nat}:(ob (EP os id) i).live=(ob os i).live∧(ob (EP os id) i).gen=(ob os i).gen∧(ob (EP os id) i).site=(ob os i).site∧(ob (EP os id) i).holds=(ob os i).holds∧(ob (EP os id) i).roots=(ob os i).roots∧(ob (EP os id) i).field=(ob os i).field∧(ob (EP os id) i).purple=(ob os i).purple:=by
 unfold EP
 split
 ·exact ⟨rfl,rfl,rfl,rfl,rfl,rfl,rfl⟩
 ·have hk:=BO (l:=os) (id:=id) (by omega)
  rw [EW (by omega)]
  split
  ·rename_i h;subst h;exact ⟨rfl,rfl,rfl,rfl,rfl,rfl,rfl⟩
  ·exact ⟨rfl,rfl,rfl,rfl,rfl,rfl,rfl⟩
theorem stF {os:List AV} {k j:Nat} {v:Int} {K:List T→Prop} (hk:k<os.length) (hj:j<(ob os k).field.length) (h:K (tR tO (os.set k {ob os k with field:=(ob os k).field.set j v}))):stc (tR tO os) [AA (iv k)*8+6] (AA (iv j)*1) (I v) K:=by
 rw [←DF hk] at h hj;exact kP hk hj h
theorem OF.put {o:AV} {m:List Int} (h:OF o) (hl:m.length=3) (hf: ∀x∈m,F64 x):OF {o with field:=m}:=⟨h.gen,hl,hf⟩
theorem aC {os:List AV} {buf:List Int} {b d:List T} {a0 a1 a2 a3:Int} {s:ByteArray} {K:J2} (hol:os.length=8) (hof: ∀o∈os,OF o) (hb:buf.length≤100) (h1:F64 a1) (h3:F64 a3) (h:K [I (HN os buf a1 a2 a3).2.2.code,I (HN os buf a1 a2 a3).2.2.val] [tI (HN os buf a1 a2 a3).2.2.freed,tR tO (HN os buf a1 a2 a3).1,tI (HN os buf a1 a2 a3).2.1]):cl2 ⟨Try.prog,w0⟩ 146 DR.sg [I a0,I a1,I a2,I a3, .string s] [tR tO os,b,tI buf,d] K:=by
 refine DR.cl2 ?_
 unfold DR.txt
 unfold HN at h
 refine CM h1 (by omega) ?_
 by_cases hs:AB os a1<0
 ·rw [if_pos (.inl hs)] at h
  repeat' (first | exact B8 h | refine BK ?_ | refine l7 ?_ | refine TT (by first | with_reducible assumption | omega) ?_ | refine KY (by first | with_reducible assumption | omega) ?_ | refine C6 (by first | with_reducible assumption | omega) rfl ?_ | refine B2 ?_ | refine A8 ?_)
 have hkb:=BO (l:=os) (id:=a1) (by omega)
 by_cases hc:a3≠ -1∧AB os a3<0
 ·obtain ⟨hc1,hc2⟩:=hc
  rw [if_pos (.inr ⟨hc1,hc2⟩)] at h
  repeat' (first | refine CM h3 (by omega) ?_ | exact B8 h | refine BK ?_ | refine PH ?_ | refine OW (by first | with_reducible assumption | omega) ?_ | refine H8 (by first | with_reducible assumption | omega) ?_ | refine EY (by first | with_reducible assumption | omega) ?_ | refine C6 (by first | with_reducible assumption | omega) rfl ?_ | refine C2 (by first | with_reducible assumption | omega) rfl ?_ | refine C3 (by first | with_reducible assumption | omega) ?_ | refine A8 ?_ | refine CA ?_)
 rw [if_neg (by omega)] at h
 by_cases hb2: ¬(0≤a2∧a2≤2)
 ·rw [if_pos hb2] at h
  repeat' (first | refine CM h3 (by omega) ?_ | refine GR ?_ | exact B8 h | refine BK ?_ | refine PH ?_ | refine OW (by first | with_reducible assumption | omega) ?_ | refine H8 (by first | with_reducible assumption | omega) ?_ | refine ML (by first | with_reducible assumption | omega) ?_ | refine EY (by first | with_reducible assumption | omega) ?_ | refine C6 (by first | with_reducible assumption | omega) rfl ?_ | refine C2 (by first | with_reducible assumption | omega) rfl ?_ | refine BU ?_ | refine C3 (by first | with_reducible assumption | omega) ?_ | refine DM (by first | with_reducible assumption | omega) ?_ | refine A8 ?_ | refine CA ?_ | refine DK ?_ | refine I4 (fun _=> ?_) (fun _=> ?_))
 rw [if_neg hb2] at h
 obtain ⟨k,hkk⟩: ∃k,(AB os a1).toNat=k:=⟨_,rfl⟩
 have hkI:AB os a1=(k:Int):=by omega
 rw [hkk] at h hkb
 obtain ⟨j,rfl⟩: ∃j:Nat,a2=j:=⟨a2.toNat,by omega⟩
 rw [Int.toNat_natCast] at h
 have hkl:k<os.length:=by omega
 have ho:=hof _ (H9 (l:=os) (i:=k) (by omega))
 obtain ⟨_,_,_,_,_,gf,_⟩:=W0 (os:=os) (id:=a3) (i:=k)
 have gl:=TM os a3
 have gof:=bY (id:=a3) hof
 have jl:j<(ob os k).field.length:=by rw [ho.len];omega
 rw [hkI]
 repeat' (first | refine CM h3 (by omega) ?_ | refine GR ?_ | refine PT h3 hol ?_ | refine BK ?_ | refine PH ?_ | refine VM ?_ | refine NU ?_ | refine H8 (by first | with_reducible assumption | omega) ?_ | refine ML (by first | with_reducible assumption | omega) ?_ | refine C6 (by first | with_reducible assumption | omega) rfl ?_ | refine C2 (by first | with_reducible assumption | omega) rfl ?_ | refine BU ?_ | refine DM (by first | with_reducible assumption | omega) ?_ | refine A8 ?_ | refine CA ?_ | refine DK ?_ | refine AT (by omega) ?_ | refine WX (by omega) ?_ | refine I4 (fun _=> ?_) (fun _=> ?_) | simp only [AH,AR,AN,AS,AJ,AD,AG,AP,AO,AK,AM,AL,AI,AQ,BD,BI,BH,BJ,BG,BF,BE,A5,AZ,A4,A6,A7,AY])
 all_goals
  refine AT (by rw [GO (by omega),AD,gf];exact jl) (MB (by omega) (by rw [gf];exact jl) (AT (by omega) ?_))
  rw [gf]
  refine O5 (f:=tO) (i:=k) (by omega) (by decide) rfl ?_
  refine AT (by rw [GO (by omega),AD,gf];exact jl) (stF (by omega) (by rw [gf];exact jl) ?_)
  rw [gf]
  refine BM (AW (fun he=> ?_) fun he=> ?_)
  ·rw [if_pos he] at h;exact h
  ·rw [if_neg he] at h
   exact PA (buf:=buf) (ids:=[gI (ob os k).field j]) (by simpa using gl.trans hol) (KJ gof (OF.put (gof _ (H9 (by omega))) (by rw [List.length_set];exact ho.len) fun x hx=>(List.mem_or_eq_of_mem_set hx).elim (ho.fld x) fun he=>he ▸ h3)) (by omega) (by simp) (by simpa using ho.fld _ (DW jl)) h
theorem WU {h:Hp} {a0 a1 a2 a3:Int} {s:ByteArray} {K:J2} (st:St h) (h1:F64 a1) (h3:F64 a3) (hfd: ∀i, ∀f∈(ob h.AE i).field,f= -1∨0≤f) (hK:K [I (HN h.AE h.buffer a1 a2 a3).2.2.code,I (HN h.AE h.buffer a1 a2 a3).2.2.val] [tR tO (HN h.AE h.buffer a1 a2 a3).1,tR tW h.B1,tI (HN h.AE h.buffer a1 a2 a3).2.1,tS h.sites,tI (HN h.AE h.buffer a1 a2 a3).2.2.freed]):cl2 ⟨Try.prog,w0⟩ 125 FZ.sg [I a0,I a1,I a2,I a3, .string s] (trees h) K:=by
 refine FZ.cl2 ?_
 unfold FZ.txt
 obtain ⟨os,ws,buf,ss⟩:=h
 have hol:os.length=8:=st.ol
 have hof: ∀o∈os,OF o:=st.of
 simp only at hK hfd
 simp only [trees]
 unfold HN at hK
 have gn: ∀{K:J2},K [] [tR tO (EP os a3),tR tW ws,tI buf,tS ss]→cl2 ⟨Try.prog,w0⟩ 153 FT.sg [I a3] [tR tO os,tR tW ws,tI buf,tS ss] K:=fun hk=>T3 st h3 hk
 have ls: ∀{os':List AV} {x:Int} {K:J2},os'.length=os.length→(∀o∈os',OF o)→F64 x→K [] [tR tO (FU os' buf [x]).1,tR tW ws,tI (FU os' buf [x]).2.1,tS ss,tI (FU os' buf [x]).2.2]→cl2 ⟨Try.prog,w0⟩ 154 GF.sg [] [tR tO os',tR tW ws,tI buf,tS ss,tI [x]] K:=fun hl ho hx hk=>TZ (St.set st hl ho) (by simp) (by simpa using hx) hk
 refine CL h1 (by omega) ?_
 by_cases hs:AB os a1<0
 ·rw [if_pos (.inl hs)] at hK
  repeat' (first | exact hK | refine BK ?_ | refine l7 ?_ | refine TT (by first | with_reducible assumption | omega) ?_ | refine KY (by first | with_reducible assumption | omega) ?_ | refine C6 (by first | with_reducible assumption | omega) rfl ?_ | refine B2 ?_ | refine A8 ?_)
 have hkb:=BO (l:=os) (id:=a1) (by omega)
 by_cases hc:a3≠ -1∧AB os a3<0
 ·obtain ⟨hc1,hc2⟩:=hc
  rw [if_pos (.inr ⟨hc1,hc2⟩)] at hK
  repeat' (first | refine CL h3 (by omega) ?_ | exact hK | refine BK ?_ | refine PH ?_ | refine OW (by first | with_reducible assumption | omega) ?_ | refine H8 (by first | with_reducible assumption | omega) ?_ | refine EY (by first | with_reducible assumption | omega) ?_ | refine C6 (by first | with_reducible assumption | omega) rfl ?_ | refine C2 (by first | with_reducible assumption | omega) rfl ?_ | refine C3 (by first | with_reducible assumption | omega) ?_ | refine A8 ?_ | refine CA ?_)
 rw [if_neg (by omega)] at hK
 by_cases hb2: ¬(0≤a2∧a2≤2)
 ·rw [if_pos hb2] at hK
  repeat' (first | refine CL h3 (by omega) ?_ | refine D9 ?_ | exact hK | refine BK ?_ | refine PH ?_ | refine OW (by first | with_reducible assumption | omega) ?_ | refine H8 (by first | with_reducible assumption | omega) ?_ | refine ML (by first | with_reducible assumption | omega) ?_ | refine EY (by first | with_reducible assumption | omega) ?_ | refine C6 (by first | with_reducible assumption | omega) rfl ?_ | refine C2 (by first | with_reducible assumption | omega) rfl ?_ | refine BU ?_ | refine C3 (by first | with_reducible assumption | omega) ?_ | refine DM (by first | with_reducible assumption | omega) ?_ | refine A8 ?_ | refine CA ?_ | refine DK ?_ | refine I4 (fun _=> ?_) (fun _=> ?_))
 rw [if_neg hb2] at hK
 obtain ⟨k,hkk⟩: ∃k,(AB os a1).toNat=k:=⟨_,rfl⟩
 have hkI:AB os a1=(k:Int):=by omega
 rw [hkk] at hK hkb
 obtain ⟨j,rfl⟩: ∃j:Nat,a2=j:=⟨a2.toNat,by omega⟩
 rw [Int.toNat_natCast] at hK
 have hkl:k<os.length:=by omega
 have ho:=hof _ (H9 (l:=os) (i:=k) (by omega))
 obtain ⟨_,_,_,_,_,gf,_⟩:=W0 (os:=os) (id:=a3) (i:=k)
 have gl:=TM os a3
 have gof:=bY (id:=a3) hof
 have jl:j<(ob os k).field.length:=by rw [ho.len];omega
 have hold:=hfd k _ (DW jl)
 rw [hkI]
 repeat' (first | refine CL h3 (by omega) ?_ | refine D9 ?_ | refine BK ?_ | refine PH ?_ | refine VM ?_ | refine NU ?_ | refine H8 (by first | with_reducible assumption | omega) ?_ | refine ML (by first | with_reducible assumption | omega) ?_ | refine C6 (by first | with_reducible assumption | omega) rfl ?_ | refine C2 (by first | with_reducible assumption | omega) rfl ?_ | refine BU ?_ | refine DM (by first | with_reducible assumption | omega) ?_ | refine A8 ?_ | refine CA ?_ | refine DK ?_ | refine AT (by omega) ?_ | refine WX (by omega) ?_ | refine I4 (fun _=> ?_) (fun _=> ?_) | simp only [AH,AR,AN,AS,AJ,AD,AG,AP,AO,AK,AM,AL,AI,AQ,BD,BI,BH,BJ,BG,BF,BE,A5,AZ,A4,A6,A7,AY])
 all_goals
  refine AT (by rw [GO (by omega),AD];exact jl) (MB (by omega) jl (BQ ?_))
  simp only [AH,AR,AN,AS,AJ,AD,AG,AP,AO,AK,AM,AL,AI,AQ,BD,BI,BH,BJ,BG,BF,BE,A5,AZ,A4,A6,A7,AY]
  refine LG (AW (fun hge=>gn ?_) fun hlt=> ?_)
  ·simp only [AH,AR,AN,AS,AJ,AD,AG,AP,AO,AK,AM,AL,AI,AQ,BD,BI,BH,BJ,BG,BF,BE,A5,AZ,A4,A6,A7,AY]
   refine AT (by omega) (O5 (f:=tO) (i:=k) (by omega) (by decide) rfl ?_)
   refine AT (by rw [GO (by omega),AD,gf];exact jl) (stF (by omega) (by rw [gf];exact jl) ?_)
   rw [gf]
   refine A8 (AW (fun he=> ?_) fun he=> ?_)
   ·rw [if_pos (by omega)] at hK;exact hK
   ·rw [if_neg (by omega)] at hK
    exact ls (by simpa using gl) (KJ gof (OF.put (gof _ (H9 (by omega))) (by rw [List.length_set];exact ho.len) fun x hx=>(List.mem_or_eq_of_mem_set hx).elim (ho.fld x) fun he=>he ▸ h3)) (ho.fld _ (DW jl)) hK
  ·have e0:EP os a3=os:=by unfold EP;rw [if_pos];rw [GI (by omega)];decide
   rw [e0] at hK
   refine AT (by omega) (O5 (f:=tO) (i:=k) (by omega) (by decide) rfl ?_)
   refine AT (by rw [GO (by omega),AD];exact jl) (stF (by omega) jl ?_)
   refine A8 (AW (fun he=> ?_) fun he=> ?_)
   ·rw [if_pos (by omega)] at hK;exact hK
   ·rw [if_neg (by omega)] at hK
    exact ls (by simp) (KJ hof (OF.put ho (by rw [List.length_set];exact ho.len) fun x hx=>(List.mem_or_eq_of_mem_set hx).elim (ho.fld x) fun he=>he ▸ h3)) (ho.fld _ (DW jl)) hK
def KZ (os:List AV) (ws:List Wk) (id:Int):List Wk×An:=
 if AB os id<0 then (ws,⟨1,0,[]⟩) else if IT ws<0 then (ws,⟨3,0,[]⟩) else (ws.set (IT ws).toNat ⟨true,id⟩,⟨0,IT ws,[]⟩)
def GU (os:List AV) (ws:List Wk) (kind k:Int):List Wk×An:=
 if ¬(0≤k∧k≤(ws.length:Int)-1) then (ws,⟨2,0,[]⟩) else
 if (wk ws k.toNat).used=false then (ws,⟨2,0,[]⟩) else
 if kind=9 then (ws.set k.toNat ⟨false,0⟩,⟨0,0,[]⟩) else
 if AB os (wk ws k.toNat).target<0 then (ws,⟨0, -1,[]⟩) else (ws,⟨0,(wk ws k.toNat).target,[]⟩)
theorem TL {ws:List Wk} (h: ¬IT ws<0):(IT ws).toNat<ws.length∧IT ws=((IT ws).toNat:Int)∧(wk ws (IT ws).toNat).used=false:=by
 rcases SD ws.length (fun i=> !(wk ws i).used) with ⟨h1,_⟩ | ⟨i,h1,h2,h3,_⟩
 ·unfold IT at h;omega
 ·have e:IT ws=i:=h2
  have e2:(IT ws).toNat=i:=by omega
  rw [e2];exact ⟨h1,e,by simpa using h3⟩
theorem cH {os:List AV} {ws:List Wk} {c d:List T} {id:Int} {K:J2} (hol:os.length=8) (hwl:ws.length=8) (hid:F64 id) (h:K [I (KZ os ws id).2.code,I (KZ os ws id).2.val] [tI (KZ os ws id).2.freed,tR tW (KZ os ws id).1]):cl2 ⟨Try.prog,w0⟩ 147 EH.sg [I id] [tR tO os,tR tW ws,c,d] K:=by
 refine EH.cl2 ?_
 unfold EH.txt
 unfold KZ at h
 simp only [AH,AR,AN,AS,AJ,AD,AG,AP,AO,AK,AM,AL,AI,AQ,BD,BI,BH,BJ,BG,BF,BE,A5,AZ,A4,A6,A7,AY]
 refine UK hwl (CM hid (by omega) (A8 (AW (fun hs=> ?_) fun hs=> ?_)))
 ·rw [if_pos hs] at h;exact B8 h
 rw [if_neg hs] at h
 refine A8 (AW (fun hf=> ?_) fun hf=> ?_)
 ·rw [if_pos hf] at h;exact B8 h
 rw [if_neg hf] at h
 obtain ⟨f1,f2,f3⟩:=TL hf
 simp only [AH,AR,AN,AS,AJ,AD,AG,AP,AO,AK,AM,AL,AI,AQ,BD,BI,BH,BJ,BG,BF,BE,A5,AZ,A4,A6,A7,AY]
 rw [f2] at h ⊢
 rw [Int.toNat_natCast] at h
 exact AT f1 (LD (f:=tW) f1 (y:=⟨true,id⟩) rfl h)
theorem XS {os:List AV} {ws:List Wk} {c d:List T} {kind k:Int} {K:J2} (hol:os.length=8) (hwl:ws.length=8) (hk:F64 k) (hwf: ∀w∈ws,F64 w.target) (h:K [I (GU os ws kind k).2.code,I (GU os ws kind k).2.val] [tI (GU os ws kind k).2.freed,tR tW (GU os ws kind k).1]):cl2 ⟨Try.prog,w0⟩ 148 DH.sg [I kind,I k] [tR tO os,tR tW ws,c,d] K:=by
 refine DH.cl2 ?_
 unfold DH.txt
 unfold GU at h
 simp only [AH,AR,AN,AS,AJ,AD,AG,AP,AO,AK,AM,AL,AI,AQ,BD,BI,BH,BJ,BG,BF,BE,A5,AZ,A4,A6,A7,AY]
 refine H6 ⟨by omega,by omega⟩ (GR (DK ?_))
 by_cases hb: ¬(0≤k∧k≤(ws.length:Int)-1)
 ·rw [if_pos hb] at h
  repeat' (first | exact B8 h | refine BK ?_ | refine KY (by first | with_reducible assumption | omega) ?_ | refine C6 (by first | with_reducible assumption | omega) rfl ?_ | refine B2 ?_)
 rw [if_neg hb] at h
 obtain ⟨j,rfl⟩: ∃j:Nat,k=j:=⟨k.toNat,by omega⟩
 rw [Int.toNat_natCast] at h
 have jl:j<ws.length:=by omega
 have hw:=hwf _ (List.getElem_mem jl)
 rw [YP jl] at hw
 cases hu:(wk ws j).used with
 | false=>
   rw [if_pos hu] at h
   repeat' (first | refine QA (v:= .bool false) jl (by simp [tW,hu]) ?_ | exact B8 h | refine BK ?_ | refine EY (by first | with_reducible assumption | omega) ?_ | refine C2 (by first | with_reducible assumption | omega) rfl ?_ | refine B2 ?_ | refine AT (by omega) ?_ | refine B4 ?_)
 | true=>
   rw [if_neg (by rw [hu];decide)] at h
   repeat' (first | refine QA (v:= .bool true) jl (by simp [tW,hu]) ?_ | refine CM hw (by omega) ?_ | refine BK ?_ | refine EY (by first | with_reducible assumption | omega) ?_ | refine C2 (by first | with_reducible assumption | omega) rfl ?_ | refine BU ?_ | refine A8 ?_ | refine BM ?_ | refine AT (by omega) ?_ | refine nM (by omega) (by decide) rfl ?_ | refine AW (fun _=> ?_) (fun _=> ?_) | refine B4 ?_)
   ·rename_i hh
    rw [if_pos hh] at h
    exact LD (f:=tW) jl (y:=⟨false,0⟩) rfl h
   ·rename_i hh hs
    rw [if_neg hh,if_pos hs] at h
    exact h
   ·rename_i hh hs
    rw [if_neg hh,if_neg hs] at h
    exact h
theorem XN {os:List AV} {ws:List Wk} {cc d:List T} {kind k b c:Int} {s:ByteArray} {K:J2} (hol:os.length=8) (hwl:ws.length=8) (hk:F64 k) (hwf: ∀w∈ws,F64 w.target) (h7:kind=7→K [I (KZ os ws k).2.code,I (KZ os ws k).2.val] [tR tW (KZ os ws k).1,tI (KZ os ws k).2.freed]) (h:kind≠7→K [I (GU os ws kind k).2.code,I (GU os ws kind k).2.val] [tR tW (GU os ws kind k).1,tI (GU os ws kind k).2.freed]):cl2 ⟨Try.prog,w0⟩ 126 GW.sg [I kind,I k,I b,I c, .string s] [tR tO os,tR tW ws,cc,d] K:=by
 refine GW.cl2 ?_
 unfold GW.txt
 simp only [AH,AR,AN,AS,AJ,AD,AG,AP,AO,AK,AM,AL,AI,AQ,BD,BI,BH,BJ,BG,BF,BE,A5,AZ,A4,A6,A7,AY]
 refine BM (AW (fun he=> ?_) fun he=> ?_)
 ·replace h:=h7 he
  clear h7
  unfold KZ at h
  refine CL hk (by omega) (A8 (AW (fun hs=> ?_) fun hs=> ?_))
  ·rw [if_pos hs] at h;exact h
  rw [if_neg hs] at h
  refine BC (fun i=>[iv i,I kind,I k,I b,I c, .string s,I 0,I 0]) (fun _=>[tR tW ws]) ws.length (fun i=> ∀j,j<i→(!(wk ws j).used)=false) rfl rfl (fun k hk=>by omega) (fun R i hi hP hR=> ?_)
  simp only [AH,AR,AN,AS,AJ,AD,AG,AP,AO,AK,AM,AL,AI,AQ,BD,BI,BH,BJ,BG,BF,BE,A5,AZ,A4,A6,A7,AY]
  refine A8 (AW (fun hlt=> ?_) fun hge=> ?_)
  ·have hlt:i<ws.length:=by omega
   cases hv:(wk ws i).used with
   | false=>
     refine AT hlt (QA (v:= .bool false) hlt (by simp [tW,hv]) (B4 (B2 (AT hlt ?_))))
     unfold IT at h
     rw [MV hlt (by rw [hv];rfl) hP,if_neg (by omega),Int.toNat_natCast] at h
     exact LD (f:=tW) hlt (y:=⟨true,k⟩) rfl h
   | true=>
     refine AT hlt (QA (v:= .bool true) hlt (by simp [tW,hv]) (B4 (BU (BA (by omega) (hR hlt fun k hk=> ?_)))))
     rcases Nat.lt_succ_iff_lt_or_eq.1 hk with h3 | rfl
     ·exact hP k h3
     ·rw [hv];rfl
  ·have:i=ws.length:=by omega
   subst this
   unfold IT at h
   rw [QM hP,if_pos (by decide)] at h;exact h
 ·replace h:=h he
  clear h7
  unfold GU at h
  refine H6 ⟨by omega,by omega⟩ (D9 (DK ?_))
  by_cases hb: ¬(0≤k∧k≤(ws.length:Int)-1)
  ·rw [if_pos hb] at h
   repeat' (first | exact h | refine BK ?_ | refine KY (by first | with_reducible assumption | omega) ?_ | refine C6 (by first | with_reducible assumption | omega) rfl ?_ | refine B2 ?_)
  rw [if_neg hb] at h
  obtain ⟨j,rfl⟩: ∃j:Nat,k=j:=⟨k.toNat,by omega⟩
  rw [Int.toNat_natCast] at h
  have jl:j<ws.length:=by omega
  have hw:=hwf _ (List.getElem_mem jl)
  rw [YP jl] at hw
  cases hu:(wk ws j).used with
  | false=>
    rw [if_pos hu] at h
    repeat' (first | refine QA (v:= .bool false) jl (by simp [tW,hu]) ?_ | exact h | refine BK ?_ | refine EY (by first | with_reducible assumption | omega) ?_ | refine C2 (by first | with_reducible assumption | omega) rfl ?_ | refine B2 ?_ | refine AT (by omega) ?_ | refine B4 ?_)
  | true=>
    rw [if_neg (by rw [hu];decide)] at h
    repeat' (first | refine QA (v:= .bool true) jl (by simp [tW,hu]) ?_ | refine CL hw (by omega) ?_ | refine BK ?_ | refine EY (by first | with_reducible assumption | omega) ?_ | refine C2 (by first | with_reducible assumption | omega) rfl ?_ | refine BU ?_ | refine A8 ?_ | refine BM ?_ | refine AT (by omega) ?_ | refine nM (by omega) (by decide) rfl ?_ | refine AW (fun _=> ?_) (fun _=> ?_) | refine B4 ?_)
    ·rename_i hh
     rw [if_pos hh] at h
     exact LD (f:=tW) jl (y:=⟨false,0⟩) rfl h
    ·rename_i hh hs
     rw [if_neg hh,if_pos hs] at h
     exact h
    ·rename_i hh hs
     rw [if_neg hh,if_neg hs] at h
     exact h
end Go.Proofs.Ytklmcfpgdfibnaa.P
namespace Go.Proofs.Ytklmcfpgdfibnaa.P
open Go Go.Proofs.Ytklmcfpgdfibnaa Go.Proofs.Ytklmcfpgdfibnaa.Eng
set_option linter.unusedVariables false
theorem nI (n:Int):w64 n=(n+9223372036854775808) % 18446744073709551616-9223372036854775808:=by
 simp only [w64,IntKind.wrap,IntKind.bits,IntKind.signed]
 simp
 split <;> omega
theorem MM (a b:Int):w64 (w64 a+b)=w64 (a+b):=by simp only [nI];omega
theorem iU (a:Int):F64 (w64 a):=by rw [nI];exact ⟨by omega,by omega⟩
def G5:Nat→(Nat→Int)→Int
 | 0,_=>0
 | n+1,f=>G5 n f+f n
theorem K8 {n:Nat} {f g:Nat→Int} (h: ∀k,k<n→f k=g k):G5 n f=G5 n g:=by
 induction n with
 | zero=>rfl
 | succ n ih=>simp only [G5];rw [ih fun k hk=>h k (by omega),h n (by omega)]
theorem TK {n k0:Nat} {f g:Nat→Int} (hk:k0<n) (h: ∀k,k<n→k≠k0→f k=g k):G5 n g=G5 n f+(g k0-f k0):=by
 induction n with
 | zero=>omega
 | succ n ih=>
   simp only [G5]
   by_cases he:k0=n
   ·subst he
    rw [K8 (g:=g) fun k hk=>h k (by omega) (by omega)];omega
   ·rw [ih (by omega) fun k hk hne=>h k (by omega) hne,h n (by omega) (by omega)];omega
theorem jX {n:Nat} {f g:Nat→Int}:G5 n (fun k=>f k+g k)=G5 n f+G5 n g:=by
 induction n with
 | zero=>rfl
 | succ n ih=>simp only [G5,ih];omega
theorem I9 {n:Nat} {f:Nat→Int} (h: ∀k,k<n→f k=0):G5 n f=0:=by
 induction n with
 | zero=>rfl
 | succ n ih=>simp only [G5];rw [ih fun k hk=>h k (by omega),h n (by omega)];rfl
theorem K9 {n:Nat} {f g:Nat→Int} (h: ∀k,k<n→f k≤g k):G5 n f≤G5 n g:=by
 induction n with
 | zero=>exact Int.le_refl _
 | succ n ih=>simp only [G5];have:=ih fun k hk=>h k (by omega);have:=h n (by omega);omega
theorem EI {l:List Int} {i k:Nat} {v:Int} (hk:k<l.length):gI (l.set k v) i=if i=k then v else gI l i:=by
 unfold gI
 by_cases h:i=k
 ·subst h
  rw [if_pos rfl,List.getD_eq_getElem?_getD,List.getElem?_set_self hk];rfl
 ·rw [if_neg h,List.getD_eq_getElem?_getD,List.getElem?_set_ne (Ne.symm h),List.getD_eq_getElem?_getD]
def BP (os:List AV) (k:Nat):List Int:=((ob os k).field.map (AB os)).filter fun x=>decide (0≤x)
def E (os:List AV) (k i:Nat):Int:=((BP os k).count (i:Int):Nat)
theorem CO {os:List AV} {k:Nat} {x:Int} (h:x∈BP os k):0≤x∧x.toNat<8∧x=(x.toNat:Int)∧os.length=8∧(ob os x.toNat).live=true:=by
 obtain ⟨h1,h2⟩:=List.mem_filter.1 h
 obtain ⟨f,_,rfl⟩:=List.mem_map.1 h1
 have h2:0≤AB os f:=by simpa using h2
 have:=BO h2
 exact ⟨h2,this.2.2.2.1,by omega,this.1,this.2.2.2.2.1⟩
theorem NL {os:List AV} (hof: ∀o∈os,OF o) {k:Nat} (hk:k<os.length):(BP os k).length≤3:=by
 have:=List.length_filter_le (fun x=>decide (0≤x)) ((ob os k).field.map (AB os))
 rw [List.length_map,(hof _ (H9 hk)).len] at this
 exact this
theorem PE (os:List AV) (k i:Nat):0≤E os k i:=Int.natCast_nonneg _
theorem tG {os:List AV} {k i:Nat} (h:(i:Int)∉BP os k):E os k i=0:=by
 unfold E;rw [List.count_eq_zero.2 h];rfl
inductive Reach (os:List AV) (s:Nat):Nat→Prop
 | refl:Reach os s s
 | step {k:Nat} {j:Int}:Reach os s k→j∈BP os k→Reach os s j.toNat
theorem Reach.trans {os:List AV} {a b c:Nat} (h:Reach os a b) (g:Reach os b c):Reach os a c:=by
 induction g with
 | refl=>exact h
 | step _ hj ih=>exact .step ih hj
theorem Reach.closed {os:List AV} {P:Nat→Prop} {s k:Nat} (h:Reach os s k) (hs:P s) (hc: ∀k,P k→ ∀j∈BP os k,P j.toNat):P k:=by
 induction h with
 | refl=>exact hs
 | step _ hj ih=>exact hc _ ih _ hj
theorem Reach.lt {os:List AV} {s k:Nat} (h:Reach os s k) (hs:s<8):k<8:=h.closed (P:=fun k=>k<8) hs fun _ _ _ hj=>(CO hj).2.1
def S (os:List AV) (P:Nat→Bool) (i:Nat):Int:=G5 8 fun k=>if P k then E os k i else 0
theorem fP {os:List AV} {P Q:Nat→Bool} {i:Nat} (h: ∀k,k<8→P k=Q k):S os P i=S os Q i:=K8 fun k hk=>by rw [h k hk]
theorem lQ {os:List AV} {P Q:Nat→Bool} {i k0:Nat} (hk:k0<8) (h0:P k0=false) (h1:Q k0=true) (h: ∀k,k<8→k≠k0→P k=Q k):S os Q i=S os P i+E os k0 i:=by
 unfold S
 rw [TK (n:=8) (f:=fun k=>if P k then E os k i else 0) (g:=fun k=>if Q k then E os k i else 0) hk fun k hk hne=>by rw [h k hk hne]]
 simp only [h0,h1];simp
theorem ZR {os:List AV} {P:Nat→Bool} {i:Nat}:S os P i+S os (fun k=> !P k) i=S os (fun _=>true) i:=by
 unfold S
 rw [←jX]
 refine K8 fun k hk=> ?_
 cases h:P k <;> simp [h]
def isC (col:List Int) (c:Int) (k:Nat):Bool:=decide (gI col k=c)
theorem P5 {col:List Int} {c:Int} {k s:Nat} (hs:s<col.length):isC (col.set s c) c k=(decide (k=s)||isC col c k):=by
 unfold isC
 rw [EI hs]
 by_cases h:k=s
 ·simp [h]
 ·simp [h]
def JM (col:List Int) (c:Int):Nat:=(G5 8 fun k=>if isC col c k then 0 else 1).toNat
theorem gA {a b:List Int} {c:Int} (h: ∀k,k<8→gI a k=c→gI b k=c):JM b c≤JM a c:=by
 have:G5 8 (fun k=>if isC b c k then 0 else 1)≤G5 8 (fun k=>if isC a c k then 0 else 1):=K9 fun k hk=>by
  by_cases h1:gI a k=c
  ·simp [isC,h1,h k hk h1]
  ·by_cases h3:gI b k=c <;> simp [isC,h1,h3]
 unfold JM;omega
theorem LM {a b:List Int} {c:Int} {s:Nat} (hs:s<8) (h0:gI a s≠c) (h1:gI b s=c) (h: ∀k,k<8→gI a k=c→gI b k=c):JM b c<JM a c:=by
 have hle:G5 8 (fun k=>if isC b c k then 0 else 1)≤G5 8 (fun k=>if isC a c k∨k=s then 0 else 1):=K9 fun k hk=>by
  by_cases h2:gI a k=c
  ·simp [isC,h2,h k hk h2]
  ·by_cases hks:k=s
   ·subst hks;simp [isC,h1]
   ·by_cases h3:gI b k=c <;> simp [isC,h2,h3,hks]
 have hu:=TK (n:=8) (k0:=s) (f:=fun k=>if isC a c k∨k=s then (0:Int) else 1) (g:=fun k=>if isC a c k then (0:Int) else 1) hs fun k hk hne=>by simp [hne]
 have e1:isC a c s=false:=by simp [isC,h0]
 simp only [e1,or_true,if_true] at hu
 have h3:0≤G5 8 (fun k=>if isC b c k then (0:Int) else 1):=by
  have:=K9 (n:=8) (f:=fun _=>0) (g:=fun k=>if isC b c k then (0:Int) else 1) fun k hk=>by split <;> simp
  rw [I9 (fun _ _=>rfl)] at this;exact this
 simp only [Bool.false_eq_true,if_false] at hu
 unfold JM;omega
theorem TV (col:List Int) (c:Int):JM col c≤8:=by
 have:G5 8 (fun k=>if isC col c k then (0:Int) else 1)≤G5 8 (fun _=>1):=K9 fun k hk=>by split <;> simp
 have e:G5 8 (fun _=>(1:Int))=8:=rfl
 unfold JM;omega
structure JT (os:List AV) (c m:Int) (cs col cs' col':List Int) (s:Nat):Prop where
 len:cs'.length=8∧col'.length=8
 f: ∀i,i<8→F64 (gI cs' i)
 JN: ∀k,k<8→gI col k=c→gI col' k=c
 only: ∀k,k<8→gI col' k≠c→gI col' k=gI col k
 got:gI col' s=c
 clo: ∀k,k<8→gI col' k=c→gI col k≠c→Reach os s k∧ ∀j∈BP os k,gI col' j.toNat=c
 cnt: ∀i,i<8→gI cs' i=w64 (gI cs i+m*(S os (isC col' c) i-S os (isC col c) i))
theorem JT.refl {os:List AV} {c m:Int} {cs col:List Int} {s:Nat} (h1:cs.length=8) (h2:col.length=8) (hf: ∀i,i<8→F64 (gI cs i)) (hs:gI col s=c):JT os c m cs col cs col s:=
 ⟨⟨h1,h2⟩,hf,fun _ _ h=>h,fun _ _ _=>rfl,hs,fun _ _ h1 h2=>absurd h1 h2,fun i hi=>by rw [Int.sub_self,Int.mul_zero,Int.add_zero,KC (hf i hi)]⟩
end Go.Proofs.Ytklmcfpgdfibnaa.P
