/- A part of the proof. -/
import Derived.Test.YtnhicpkhkaihoaaGreatFtHpI
namespace Go.Proofs.YtnhicpkhkaihoaaGreat.P
open Go Go.Proofs.YtnhicpkhkaihoaaGreat Go.Proofs.YtnhicpkhkaihoaaGreat.Eng
set_option linter.unusedVariables false
set_option maxHeartbeats 4000000
set_option linter.unusedVariables false
set_option linter.unusedSimpArgs false
attribute [local irreducible] prP gP gE gF AV ixW ldc ldg ldl stc stg scW mkW apW BC cl2 BW F6 C2
variable {w0:World}
def PE (n:Nat) (p:Nat→Bool):Int:=match (List.range n).find? p with
 | some i=>(i:Int)
 | none=> -1
theorem OZ {n i:Nat} {p:Nat→Bool} (hi:i<n) (h:p i=true) (hb: ∀k,k<i→p k=false):PE n p=i:=by
 have:(List.range n).find? p=some i:=List.find?_range_eq_some.2 ⟨h,List.mem_range.2 hi,fun j hj=>by rw [hb j hj];rfl⟩
 rw [PE,this]
theorem S5 {n:Nat} {p:Nat→Bool} (hb: ∀k,k<n→p k=false):PE n p= -1:=by
 have:(List.range n).find? p=none:=List.find?_range_eq_none.2 fun j hj=>by rw [hb j hj];rfl
 rw [PE,this]
theorem U6 (n:Nat) (p:Nat→Bool):(PE n p= -1∧ ∀k,k<n→p k=false)∨ ∃i,i<n∧PE n p=(i:Int)∧p i=true∧ ∀k,k<i→p k=false:=by
 cases h:(List.range n).find? p with
 | none=>exact .inl ⟨by rw [PE,h],fun k hk=>by have:=List.find?_range_eq_none.1 h k hk;simpa using this⟩
 | some i=>
   obtain ⟨h1,h2,h3⟩:=List.find?_range_eq_some.1 h
   exact .inr ⟨i,List.mem_range.1 h2,by rw [PE,h],h1,fun k hk=>by have:=h3 k hk;simpa using this⟩
def KT (os:List A7) (i:Nat):Bool:= !(ob os i).live&&decide ((ob os i).gen<999)
def CO (os:List A7):Int:=PE os.length (KT os)
def KM (ws:List Wk):Int:=PE ws.length fun i=> !(wk ws i).used
theorem XL {os:List A7} {b c d:List T} {K:J2} (hol:os.length=8) (h:K [I (CO os)] []):cl2 ⟨Tryz.prog,w0⟩ 167 GG.sg [] [tR tO os,b,c,d] K:=by
 refine GG.cl2 ?_
 unfold GG.txt
 simp only [AI,AL,AH,AJ,AM,AE,AG,AR,AP,AN,AQ,AO,AS,AK,BD,BF,BI,BJ,BH,BG,BE,A1,AZ,AY,AX,A4,A5]
 refine A8 (fun i=>[iv os.length,iv i]) (fun _=>[]) os.length (fun i=> ∀k,k<i→KT os k=false) rfl rfl (fun k hk=>by omega) (fun R i hi hP hR=> ?_)
 simp only [AI,AL,AH,AJ,AM,AE,AG,AR,AP,AN,AQ,AO,AS,AK,BD,BF,BI,BJ,BH,BG,BE,A1,AZ,AY,AX,A4,A5]
 refine AW (AT (fun hlt=> ?_) fun hge=> ?_)
 ·have hlt:i<os.length:=by omega
  refine AU hlt (OJ hlt ?_)
  simp only [nZ,oV]
  have no:KT os i=false→R [iv os.length,iv (i+1)] []:=fun hn=>hR hlt fun k hk=>(Nat.lt_succ_iff_lt_or_eq.1 hk).elim (hP k) fun he=>he ▸ hn
  have yes:KT os i=true→K [iv i] []:=fun hy=>by unfold CO at h;rw [OZ hlt hy hP] at h;exact h
  cases hv:(ob os i).live with
  | false=>
    repeat' (first | refine BM ?_ | refine QC ?_ | refine HV (by first | with_reducible assumption | omega) ?_ | refine CL (by first | with_reducible assumption | omega) rfl ?_ | refine TL rfl ?_ | refine AW ?_ | refine A6 (by omega) ?_ | refine AT (fun _=> ?_) (fun _=> ?_) | refine BP ?_)
    ·exact yes (by simp [KT,hv];omega)
    ·exact no (by simp [KT,hv];omega)
  | true=>
    repeat' (first | refine BM ?_ | refine NM ?_ | refine HV (by first | with_reducible assumption | omega) ?_ | refine CL (by first | with_reducible assumption | omega) rfl ?_ | refine UH rfl ?_ | refine BT ?_ | refine AW ?_ | refine A6 (by omega) ?_ | refine BP ?_)
    all_goals exact no (by simp [KT,hv])
 ·have:i=os.length:=by omega
  subst this
  unfold CO at h
  rw [S5 hP] at h;exact h
theorem XM {os:List A7} {b c d:List T} {K:J2} (hol:os.length=8) (h:K [I (CO os)] []):cl2 ⟨Tryz.prog,w0⟩ 157 GP.sg [] [tR tO os,b,c,d] K:=by
 refine GP.cl2 ?_
 unfold GP.txt
 simp only [AI,AL,AH,AJ,AM,AE,AG,AR,AP,AN,AQ,AO,AS,AK,BD,BF,BI,BJ,BH,BG,BE,A1,AZ,AY,AX,A4,A5]
 refine A8 (fun i=>[iv i]) (fun _=>[]) os.length (fun i=> ∀k,k<i→KT os k=false) rfl rfl (fun k hk=>by omega) (fun R i hi hP hR=> ?_)
 simp only [AI,AL,AH,AJ,AM,AE,AG,AR,AP,AN,AQ,AO,AS,AK,BD,BF,BI,BJ,BH,BG,BE,A1,AZ,AY,AX,A4,A5]
 refine AW (BM (IQ (fun hlt=> ?_) fun hge=> ?_))
 ·have hlt':i<os.length:=by omega
  refine AW (CL hlt rfl (CX (by omega) ?_))
  have no:KT os i=false→R [iv (i+1)] []:=fun hn=>hR hlt' fun k hk=>(Nat.lt_succ_iff_lt_or_eq.1 hk).elim (hP k) fun he=>he ▸ hn
  have yes:KT os i=true→K [iv i] []:=fun hy=>by unfold CO at h;rw [OZ hlt' hy hP] at h;exact h
  refine AU hlt' ?_
  cases hv:(ob os i).live with
  | false=>
    refine MU (v:= .bool false) hlt' (by simp [tO,hv]) (BP ?_)
    repeat' (first | refine AU hlt' ?_ | refine JT (v:=I (ob os i).gen) hlt' (by decide) rfl ?_ | refine BM ?_ | refine QC ?_ | refine TL rfl ?_ | refine AW ?_ | refine A6 (by omega) ?_ | refine AT (fun _=> ?_) (fun _=> ?_))
    ·exact yes (by simp [KT,hv];omega)
    ·exact no (by simp [KT,hv];omega)
  | true=>
    refine MU (v:= .bool true) hlt' (by simp [tO,hv]) (BP ?_)
    repeat' (first | refine BM ?_ | refine NM ?_ | refine UH rfl ?_ | refine BT ?_ | refine A6 (by omega) ?_)
    all_goals exact no (by simp [KT,hv])
 ·refine CJ hge rfl (BT ?_)
  have:i=os.length:=by omega
  subst this
  unfold CO at h
  rw [S5 hP] at h;exact h
theorem X2 {ws:List Wk} {K:J2} (hol:ws.length=8) (h:K [I (KM ws)] []):cl2 ⟨Tryz.prog,w0⟩ 171 GQ.sg [] [tR tW ws] K:=by
 refine GQ.cl2 ?_
 unfold GQ.txt
 simp only [AI,AL,AH,AJ,AM,AE,AG,AR,AP,AN,AQ,AO,AS,AK,BD,BF,BI,BJ,BH,BG,BE,A1,AZ,AY,AX,A4,A5]
 refine A8 (fun i=>[iv ws.length,iv i]) (fun _=>[]) ws.length (fun i=> ∀k,k<i→(!(wk ws k).used)=false) rfl rfl (fun k hk=>by omega) (fun R i hi hP hR=> ?_)
 simp only [AI,AL,AH,AJ,AM,AE,AG,AR,AP,AN,AQ,AO,AS,AK,BD,BF,BI,BJ,BH,BG,BE,A1,AZ,AY,AX,A4,A5]
 refine AW (AT (fun hlt=> ?_) fun hge=> ?_)
 ·have hlt:i<ws.length:=by omega
  refine AU hlt (Z1 hlt ?_)
  simp only [uE]
  cases hv:(wk ws i).used with
  | false=>
    refine BP (BQ ?_)
    unfold KM at h
    rw [OZ hlt (by rw [hv];rfl) hP] at h;exact h
  | true=>
    refine BP (BT (A6 (by omega) (hR hlt fun k hk=> ?_)))
    rcases Nat.lt_succ_iff_lt_or_eq.1 hk with h3 | rfl
    ·exact hP k h3
    ·rw [hv];rfl
 ·have:i=ws.length:=by omega
  subst this
  unfold KM at h
  rw [S5 hP] at h;exact h
theorem B9 {n:Int} {K:J2} (h:K [I n,I 0] [[]]):cl2 ⟨Tryz.prog,w0⟩ 85 BX.sg [I n] [] K:=BX.cl2 h
def NP (g s:Int):A7:=⟨true,g,s,1,0,1,Q4,false⟩
def GX (os:List A7) (ss:List ByteArray) (s:ByteArray):List A7×List ByteArray×An:=
 if ¬(1≤(s.size:Int)∧(s.size:Int)≤8) then (os,ss,⟨2,0,[]⟩)
 else if CO os<0 then (os,ss,⟨3,0,[]⟩)
 else if at_ ss s<0∧6≤ss.length then (os,ss,⟨6,0,[]⟩)
 else (os.set (CO os).toNat (NP (w64 ((ob os (CO os).toNat).gen+1)) (if at_ ss s<0 then ss.length else at_ ss s)),(if at_ ss s<0 then ss++[s] else ss),⟨0,CU (CO os) (w64 ((ob os (CO os).toNat).gen+1)),[]⟩)
theorem RN {os:List A7} (h: ¬CO os<0):(CO os).toNat<os.length∧CO os=((CO os).toNat:Int)∧KT os (CO os).toNat=true:=by
 rcases U6 os.length (KT os) with ⟨h1,_⟩ | ⟨i,h1,h2,h3,_⟩
 ·unfold CO at h;omega
 ·have e:CO os=i:=h2
  have e2:(CO os).toNat=i:=by omega
  rw [e2];exact ⟨h1,e,h3⟩
theorem e6 {os:List A7} {b c:List T} {ss:List ByteArray} {s:ByteArray} {K:J2} (hol:os.length=8) (hsl:ss.length≤6) (h:K [I (GX os ss s).2.2.code,I (GX os ss s).2.2.val] [tI (GX os ss s).2.2.freed,tR tO (GX os ss s).1,tS (GX os ss s).2.1]):cl2 ⟨Tryz.prog,w0⟩ 126 EH.sg [.string s] [tR tO os,b,c,tS ss] K:=by
 refine EH.cl2 ?_
 unfold EH.txt
 refine XL hol (PG (by omega) (BS ?_))
 simp only [AI,AL,AH,AJ,AM,AE,AG,AR,AP,AN,AQ,AO,AS,AK,BD,BF,BI,BJ,BH,BG,BE,A1,AZ,AY,AX,A4,A5]
 unfold GX at h
 refine DX (F8 (CP (AT (fun hb=> ?_) fun hb=> ?_)))
 ·rw [if_pos hb] at h
  exact B9 h
 rw [if_neg hb] at h
 refine AW (AT (fun hf=> ?_) fun hf=> ?_)
 ·rw [if_pos hf] at h
  exact B9 h
 rw [if_neg hf] at h
 obtain ⟨f1,f2,f3⟩:=RN hf
 refine AW ?_
 by_cases ha:at_ ss s<0
 ·by_cases h6:6≤ss.length
  ·rw [if_pos ⟨ha,h6⟩] at h
   repeat' (first | exact B9 h | refine BM ?_ | refine HV (by first | with_reducible assumption | omega) ?_ | refine CL (by first | with_reducible assumption | omega) rfl ?_ | refine CX (by first | with_reducible assumption | omega) ?_ | refine EA ?_)
   all_goals omega
  ·rw [if_neg (by omega),if_pos ha,if_pos ha] at h
   repeat' (first | refine BM ?_ | refine HV (by first | with_reducible assumption | omega) ?_ | refine CL (by first | with_reducible assumption | omega) rfl ?_ | refine CX (by first | with_reducible assumption | omega) ?_ | refine C7 (by first | with_reducible assumption | omega) ?_ | refine AW ?_ | refine EA ?_ | refine FU ?_ | refine Q3 (by omega) (by omega) ?_ | refine JT (by omega) (by decide) rfl ?_ | refine EB (by first | exact O1 _ | exact S8 _ | exact eM _ | exact xJ _ | rfl) (by omega) ?_)
   exact OA (y:=NP (w64 ((ob os (CO os).toNat).gen+1)) ss.length) (by omega) rfl (NF (by rw [←U3] at h;exact h))
 ·rw [if_neg (by omega),if_neg ha,if_neg ha] at h
  repeat' (first | refine BM ?_ | refine ME (by first | with_reducible assumption | omega) ?_ | refine CJ (by first | with_reducible assumption | omega) rfl ?_ | refine BT ?_ | refine C7 (by first | with_reducible assumption | omega) ?_ | refine AW ?_ | refine FU ?_ | refine Q3 (by omega) (by omega) ?_ | refine JT (by omega) (by decide) rfl ?_)
  exact OA (y:=NP (w64 ((ob os (CO os).toNat).gen+1)) (at_ ss s)) (by omega) rfl (NF h)
theorem xS {l:List ByteArray} {x s:ByteArray} (h:x∉l):at_ (l++[x]) s=if x=s then (l.length:Int) else at_ l s:=by
 unfold at_
 by_cases hs:s∈l
 ·rw [if_pos (List.mem_append_left _ hs),if_pos hs,List.idxOf_append,if_pos hs,if_neg (show ¬x=s from fun he=>h (he ▸ hs))]
 ·by_cases hx:x=s
  ·rw [if_pos (by simp [hx]),if_pos hx,List.idxOf_append,if_neg hs]
   simp [hx]
  ·rw [if_neg (by simp [hs,Ne.symm hx]),if_neg hx,if_neg hs]
theorem bC {os:List A7} {b c:List T} {ss:List ByteArray} {s:ByteArray} {k1 k2 k3 k4:Int} {K:J2} (hol:os.length=8) (hss:M4 ss) (h:K [I (GX os ss s).2.2.code,I (GX os ss s).2.2.val] [tR tO (GX os ss s).1,tS (GX os ss s).2.1,tI (GX os ss s).2.2.freed]):cl2 ⟨Tryz.prog,w0⟩ 104 HF.sg [I k1,I k2,I k3,I k4, .string s] [tR tO os,b,c,tS ss] K:=by
 have hsl:=hss.len
 refine HF.cl2 ?_
 unfold HF.txt
 unfold GX at h
 refine DX (DO (CP (AT (fun hb=> ?_) fun hb=> ?_)))
 ·rw [if_pos hb] at h
  exact h
 rw [if_neg hb] at h
 refine XM hol (AW (AT (fun hf=> ?_) fun hf=> ?_))
 ·rw [if_pos hf] at h
  exact h
 rw [if_neg hf] at h
 obtain ⟨f1,f2,f3⟩:=RN hf
 refine A8 (fun i=>[I (CO os),I (at_ (ss.take i) s),iv i,I k1,I k2,I k3,I k4, .string s,I 0,I 0]) (fun _=>[tR tO os,tS ss]) ss.length (fun i=>True) rfl rfl trivial (fun R i hi hP hR=> ?_)
 simp only [AI,AL,AH,AJ,AM,AE,AG,AR,AP,AN,AQ,AO,AS,AK,BD,BF,BI,BJ,BH,BG,BE,A1,AZ,AY,AX,A4,A5]
 simp only [BE,Aq,Bz,Cb]
 refine AW (AT (fun hlt=> ?_) fun hge=> ?_)
 ·have hlt:i<ss.length:=by omega
  replace hR:=hR hlt trivial
  have hone:=hss.one i hlt
  rw [List.take_succ_eq_append_getElem hlt,PT hlt,xS hone] at hR
  refine BS (AU hlt (ldS hlt (IS (AT (fun he=> ?_) fun he=> ?_))))
  ·rw [if_pos he,List.length_take,Nat.min_eq_left hi] at hR
   exact A6 (by omega) hR
  ·rw [if_neg he] at hR
   exact A6 (by omega) hR
 ·have:i=ss.length:=by omega
  subst this
  rw [List.take_length]
  refine AW ?_
  by_cases ha:at_ ss s<0
  ·by_cases h6:6≤ss.length
   ·rw [if_pos ⟨ha,h6⟩] at h
    repeat' (first | exact h | refine BM ?_ | refine HV (by first | with_reducible assumption | omega) ?_ | refine CL (by first | with_reducible assumption | omega) rfl ?_ | refine CX (by first | with_reducible assumption | omega) ?_ | refine EA ?_)
    all_goals omega
   ·rw [if_neg (by omega),if_pos ha,if_pos ha] at h
    refine BM (BM (BM (HV ha (I4 (CL ha rfl (C7 (by omega) (BS (AW (CX ha (EB rfl (by omega) ?_))))))))))
    repeat' (first | refine KY ?_ | refine FU ?_ | refine Q3 (by omega) (by omega) ?_ | refine JT (by omega) (by decide) rfl ?_ | simp only [AI,AL,AH,AJ,AM,AE,AG,AR,AP,AN,AQ,AO,AS,AK,BD,BF,BI,BJ,BH,BG,BE,A1,AZ,AY,AX,A4,A5])
    rw [←U3] at h
    exact OA (y:=NP (w64 ((ob os (CO os).toNat).gen+1)) ss.length) (by omega) rfl (LM h)
  ·rw [if_neg (by omega),if_neg ha,if_neg ha] at h
   refine BM (BM (BM (ME ha (CJ ha rfl (BT (BS (AW (C7 (by omega) ?_))))))))
   repeat' (first | refine KY ?_ | refine FU ?_ | refine Q3 (by omega) (by omega) ?_ | refine JT (by omega) (by decide) rfl ?_ | simp only [AI,AL,AH,AJ,AM,AE,AG,AR,AP,AN,AQ,AO,AS,AK,BD,BF,BI,BJ,BH,BG,BE,A1,AZ,AY,AX,A4,A5])
   exact OA (y:=NP (w64 ((ob os (CO os).toNat).gen+1)) (at_ ss s)) (by omega) rfl (LM h)
def VK (r:List A7×List Int×List Int):List A7×List Int×An:=(r.1,r.2.1,⟨0,0,r.2.2⟩)
def JV (os:List A7) (buf:List Int) (kind id:Int):List A7×List Int×An:=
 if AB os id<0 then (os,buf,⟨1,0,[]⟩) else
 if kind=2 then
  if (ob os (AB os id).toNat).holds=20 then (os,buf,⟨4,0,[]⟩) else (D8 (os.set (AB os id).toNat {ob os (AB os id).toNat with holds:=(ob os (AB os id).toNat).holds+1}) id,buf,⟨0,0,[]⟩)
 else if kind=5 then
  if (ob os (AB os id).toNat).roots=20 then (os,buf,⟨4,0,[]⟩) else (D8 (os.set (AB os id).toNat {ob os (AB os id).toNat with roots:=(ob os (AB os id).toNat).roots+1}) id,buf,⟨0,0,[]⟩)
 else if kind=3 then
  if (ob os (AB os id).toNat).holds=0 then (os,buf,⟨5,0,[]⟩) else VK (H5 (os.set (AB os id).toNat {ob os (AB os id).toNat with holds:=(ob os (AB os id).toNat).holds-1}) buf [id])
 else
  if (ob os (AB os id).toNat).roots=0 then (os,buf,⟨5,0,[]⟩) else VK (H5 (os.set (AB os id).toNat {ob os (AB os id).toNat with roots:=(ob os (AB os id).toNat).roots-1}) buf [id])
theorem stH {os:List A7} {k:Nat} {v:Int} {K:List T→Prop} (hk:k<os.length) (h:K (tR tO (os.set k {ob os k with holds:=v}))):stc (tR tO os) [] (AA (iv (AA (iv k)*8+3))) (I v) K:=by
 rw [A9 (AA (iv k)*8+3), ←D6 hk] at*;exact dK hk h
theorem stR {os:List A7} {k:Nat} {v:Int} {K:List T→Prop} (hk:k<os.length) (h:K (tR tO (os.set k {ob os k with roots:=v}))):stc (tR tO os) [] (AA (iv (AA (iv k)*8+4))) (I v) K:=by
 rw [A9 (AA (iv k)*8+4), ←D6 hk] at*;exact WG hk (by decide) rfl rfl h
theorem ZN {os:List A7} {buf:List Int} {b d:List T} {kind id:Int} {K:J2} (hol:os.length=8) (hof: ∀o∈os,OF o) (hb:buf.length≤100) (hid:F64 id) (hkd:kind=2∨kind=3∨kind=5∨kind=6) (hr: ∀i,(0≤(ob os i).holds∧(ob os i).holds≤20)∧(0≤(ob os i).roots∧(ob os i).roots≤20)) (h:K [I (JV os buf kind id).2.2.code,I (JV os buf kind id).2.2.val] [tI (JV os buf kind id).2.2.freed,tR tO (JV os buf kind id).1,tI (JV os buf kind id).2.1]):cl2 ⟨Tryz.prog,w0⟩ 127 DJ.sg [I kind,I id] [tR tO os,b,tI buf,d] K:=by
 refine DJ.cl2 ?_
 unfold DJ.txt
 simp only [AI,AL,AH,AJ,AM,AE,AG,AR,AP,AN,AQ,AO,AS,AK,BD,BF,BI,BJ,BH,BG,BE,A1,AZ,AY,AX,A4,A5]
 unfold JV at h
 refine C5 hid (by omega) (AW (AT (fun hs=> ?_) fun hs=> ?_))
 ·rw [if_pos hs] at h
  exact B9 h
 rw [if_neg hs] at h
 have hkb:=BU (l:=os) (id:=id) (by omega)
 obtain ⟨k,hkk⟩: ∃k,(AB os id).toNat=k:=⟨_,rfl⟩
 have hkI:AB os id=(k:Int):=by omega
 rw [hkk] at h hkb
 have hkl:k<os.length:=by omega
 have hrk:=hr k
 have ho:=hof _ (HY (l:=os) (i:=k) (by omega))
 obtain ⟨⟨r1,r2⟩,r3,r4⟩:=hrk
 rw [BD,hkI]
 refine AU (by omega) (BS ?_)
 simp only [AI,AL,AH,AJ,AM,AE,AG,AR,AP,AN,AQ,AO,AS,AK,BD,BF,BI,BJ,BH,BG,BE,A1,AZ,AY,AX,A4,A5]
 rcases hkd with rfl | rfl | rfl | rfl
 ·simp only [if_true] at h
  repeat' (first | refine BM ?_ | refine M7 ?_ | refine O7 ?_ | refine CL (by first | with_reducible assumption | omega) rfl ?_ | refine CJ (by first | with_reducible assumption | omega) rfl ?_ | refine BQ ?_ | refine BT ?_ | refine BL ?_ | refine CW ⟨by omega,by omega⟩ ?_ | refine JT (by omega) (by decide) rfl ?_ | refine AT (fun _=> ?_) (fun _=> ?_))
  ·rename_i h20
   rw [if_pos h20] at h
   exact B9 h
  ·rename_i h20
   rw [if_neg h20] at h
   exact stH hkl (RV hid (by simpa using hol) h)
 ·simp only [if_neg (show ¬(3:Int)=2 by decide),if_neg (show ¬(3:Int)=5 by decide),if_true] at h
  repeat' (first | refine BM ?_ | refine M7 ?_ | refine CJ (by first | with_reducible assumption | omega) rfl ?_ | refine BT ?_ | refine BL ?_ | refine CW ⟨by omega,by omega⟩ ?_ | refine JT (by omega) (by decide) rfl ?_ | refine AT (fun _=> ?_) (fun _=> ?_))
  ·rename_i h20
   rw [if_pos h20] at h
   exact B9 h
  ·rename_i h20
   rw [if_neg h20] at h
   exact stH hkl (SU (buf:=buf) (ids:=[id]) (by simpa using hol) (IT hof ⟨ho.gen,ho.len,ho.fld⟩) (by omega) (by simp) (by simpa using hid) h)
 ·simp only [if_neg (show ¬(5:Int)=2 by decide),if_true] at h
  repeat' (first | refine BM ?_ | refine M7 ?_ | refine O7 ?_ | refine CL (by first | with_reducible assumption | omega) rfl ?_ | refine CJ (by first | with_reducible assumption | omega) rfl ?_ | refine BQ ?_ | refine BL ?_ | refine CW ⟨by omega,by omega⟩ ?_ | refine AU (by omega) ?_ | refine JT (by omega) (by decide) rfl ?_ | refine AT (fun _=> ?_) (fun _=> ?_))
  ·rename_i h20
   rw [if_pos h20] at h
   exact B9 h
  ·rename_i h20
   rw [if_neg h20] at h
   exact stR hkl (RV hid (by simpa using hol) h)
 ·simp only [if_neg (show ¬(6:Int)=2 by decide),if_neg (show ¬(6:Int)=5 by decide),if_neg (show ¬(6:Int)=3 by decide)] at h
  repeat' (first | refine BM ?_ | refine M7 ?_ | refine CJ (by first | with_reducible assumption | omega) rfl ?_ | refine BQ ?_ | refine BT ?_ | refine BL ?_ | refine CW ⟨by omega,by omega⟩ ?_ | refine AU (by omega) ?_ | refine JT (by omega) (by decide) rfl ?_ | refine AT (fun _=> ?_) (fun _=> ?_))
  ·rename_i h20
   rw [if_pos h20] at h
   exact B9 h
  ·rename_i h20
   rw [if_neg h20] at h
   exact stR hkl (SU (buf:=buf) (ids:=[id]) (by simpa using hol) (IT hof ⟨ho.gen,ho.len,ho.fld⟩) (by omega) (by simp) (by simpa using hid) h)
theorem Dr {os:List A7} {k:Nat} {v:Int} {K:List T→Prop} (hk:k<os.length) (h:K (tR tO (os.set k {ob os k with holds:=v}))):stc (tR tO os) [] (AA (iv k)*8+3) (I v) K:=by
 rw [←D6 hk] at h;exact dK hk h
theorem Cs {os:List A7} {k:Nat} {v:Int} {K:List T→Prop} (hk:k<os.length) (h:K (tR tO (os.set k {ob os k with roots:=v}))):stc (tR tO os) [] (AA (iv k)*8+4) (I v) K:=by
 rw [←D6 hk] at h;exact WG hk (by decide) rfl rfl h
theorem St.set {h:Hp} {os:List A7} (st:St h) (hl:os.length=h.BA.length) (ho: ∀o∈os,OF o):St {h with BA:=os}:=⟨by have:=st.ol;simp only;omega,st.wl,st.sl,st.bl,ho,st.ss,st.wf,st.bf⟩
theorem bJ {h:Hp} {kind id b c:Int} {s:ByteArray} {K:J2} (st:St h) (hid:F64 id) (hkd:kind=2∨kind=3∨kind=5∨kind=6) (hr: ∀i,(0≤(ob h.BA i).holds∧(ob h.BA i).holds≤20)∧(0≤(ob h.BA i).roots∧(ob h.BA i).roots≤20)) (hK:K [I (JV h.BA h.buffer kind id).2.2.code,I (JV h.BA h.buffer kind id).2.2.val] [tR tO (JV h.BA h.buffer kind id).1,tR tW h.B7,tI (JV h.BA h.buffer kind id).2.1,tS h.sites,tI (JV h.BA h.buffer kind id).2.2.freed]):cl2 ⟨Tryz.prog,w0⟩ 105 IA.sg [I kind,I id,I b,I c, .string s] (trees h) K:=by
 refine IA.cl2 ?_
 unfold IA.txt
 obtain ⟨os,ws,buf,ss⟩:=h
 have hol:os.length=8:=st.ol
 have hof: ∀o∈os,OF o:=st.of
 simp only at hr hK
 simp only [trees]
 simp only [AI,AL,AH,AJ,AM,AE,AG,AR,AP,AN,AQ,AO,AS,AK,BD,BF,BI,BJ,BH,BG,BE,A1,AZ,AY,AX,A4,A5]
 unfold JV at hK
 refine C6 hid (by omega) (AW (AT (fun hs=> ?_) fun hs=> ?_))
 ·rw [if_pos hs] at hK
  exact hK
 rw [if_neg hs] at hK
 have hkb:=BU (l:=os) (id:=id) (by omega)
 obtain ⟨k,hkk⟩: ∃k,(AB os id).toNat=k:=⟨_,rfl⟩
 have hkI:AB os id=(k:Int):=by omega
 rw [hkk] at hK hkb
 have hkl:k<os.length:=by omega
 have hrk:=hr k
 have ho:=hof _ (HY (l:=os) (i:=k) (by omega))
 obtain ⟨⟨r1,r2⟩,r3,r4⟩:=hrk
 rw [BD,hkI]
 refine AU (by omega) (OJ hkl (BS (BS ?_)))
 simp only [nZ,oV,s9,wG,uX,oN,sF]
 have gn: ∀{os':List A7} {K:J2},os'.length=os.length→(∀o∈os',OF o)→K [] [tR tO (D8 os' id),tR tW ws,tI buf,tS ss]→cl2 ⟨Tryz.prog,w0⟩ 158 G6.sg [I id] [tR tO os',tR tW ws,tI buf,tS ss] K:=fun hl ho hk=>XG (St.set st hl ho) hid hk
 have ls: ∀{os':List A7} {K:J2},os'.length=os.length→(∀o∈os',OF o)→K [] [tR tO (H5 os' buf [id]).1,tR tW ws,tI (H5 os' buf [id]).2.1,tS ss,tI (H5 os' buf [id]).2.2]→cl2 ⟨Tryz.prog,w0⟩ 159 HT.sg [] [tR tO os',tR tW ws,tI buf,tS ss,tI [id]] K:=fun hl ho hk=>XB (St.set st hl ho) (by simp) (by simpa using hid) hk
 rcases hkd with rfl | rfl | rfl | rfl
 ·simp only [if_true] at hK
  by_cases h20:(ob os k).holds=20
  ·rw [if_pos h20] at hK
   repeat' (first | refine BM ?_ | refine QC ?_ | refine CL (by first | with_reducible assumption | omega) rfl ?_ | refine CX (by first | with_reducible assumption | omega) ?_ | refine EA ?_ | refine BL ?_ | simp only [AI,AL,AH,AJ,AM,AE,AG,AR,AP,AN,AQ,AO,AS,AK,BD,BF,BI,BJ,BH,BG,BE,A1,AZ,AY,AX,A4,A5])
   exact hK
  ·rw [if_neg h20] at hK
   repeat' (first | refine BS ?_ | refine BM ?_ | refine QC ?_ | refine NM ?_ | refine CL (by first | with_reducible assumption | omega) rfl ?_ | refine CJ (by first | with_reducible assumption | omega) rfl ?_ | refine BQ ?_ | refine BT ?_ | refine C7 (by first | with_reducible assumption | omega) ?_ | refine EA ?_ | refine BL ?_ | refine CW ⟨by omega,by omega⟩ ?_ | refine AU (by omega) ?_ | simp only [AI,AL,AH,AJ,AM,AE,AG,AR,AP,AN,AQ,AO,AS,AK,BD,BF,BI,BJ,BH,BG,BE,A1,AZ,AY,AX,A4,A5])
   exact Dr hkl (gn (by simp) (IT hof ⟨ho.gen,ho.len,ho.fld⟩) hK)
 ·simp only [if_neg (show ¬(3:Int)=2 by decide),if_neg (show ¬(3:Int)=5 by decide),if_true] at hK
  by_cases h20:(ob os k).holds=0
  ·rw [if_pos h20] at hK
   repeat' (first | refine BS ?_ | refine BM ?_ | refine QC ?_ | refine NM ?_ | refine CL (by first | with_reducible assumption | omega) rfl ?_ | refine CJ (by first | with_reducible assumption | omega) rfl ?_ | refine BT ?_ | refine CX (by first | with_reducible assumption | omega) ?_ | refine AW ?_ | refine BL ?_ | simp only [AI,AL,AH,AJ,AM,AE,AG,AR,AP,AN,AQ,AO,AS,AK,BD,BF,BI,BJ,BH,BG,BE,A1,AZ,AY,AX,A4,A5])
   exact hK
  ·rw [if_neg h20] at hK
   repeat' (first | refine BS ?_ | refine BM ?_ | refine QC ?_ | refine NM ?_ | refine CL (by first | with_reducible assumption | omega) rfl ?_ | refine CJ (by first | with_reducible assumption | omega) rfl ?_ | refine BQ ?_ | refine BT ?_ | refine C7 (by first | with_reducible assumption | omega) ?_ | refine AW ?_ | refine BL ?_ | refine CW ⟨by omega,by omega⟩ ?_ | refine AU (by omega) ?_ | simp only [AI,AL,AH,AJ,AM,AE,AG,AR,AP,AN,AQ,AO,AS,AK,BD,BF,BI,BJ,BH,BG,BE,A1,AZ,AY,AX,A4,A5])
   exact Dr hkl (ls (by simp) (IT hof ⟨ho.gen,ho.len,ho.fld⟩) hK)
 ·simp only [if_neg (show ¬(5:Int)=2 by decide),if_true] at hK
  by_cases h20:(ob os k).roots=20
  ·rw [if_pos h20] at hK
   repeat' (first | refine BM ?_ | refine QC ?_ | refine NM ?_ | refine CL (by first | with_reducible assumption | omega) rfl ?_ | refine CJ (by first | with_reducible assumption | omega) rfl ?_ | refine BT ?_ | refine CX (by first | with_reducible assumption | omega) ?_ | refine EA ?_ | refine BL ?_ | simp only [AI,AL,AH,AJ,AM,AE,AG,AR,AP,AN,AQ,AO,AS,AK,BD,BF,BI,BJ,BH,BG,BE,A1,AZ,AY,AX,A4,A5])
   exact hK
  ·rw [if_neg h20] at hK
   repeat' (first | refine BS ?_ | refine BM ?_ | refine QC ?_ | refine NM ?_ | refine CL (by first | with_reducible assumption | omega) rfl ?_ | refine CJ (by first | with_reducible assumption | omega) rfl ?_ | refine BQ ?_ | refine BT ?_ | refine C7 (by first | with_reducible assumption | omega) ?_ | refine EA ?_ | refine BL ?_ | refine CW ⟨by omega,by omega⟩ ?_ | refine AU (by omega) ?_ | simp only [AI,AL,AH,AJ,AM,AE,AG,AR,AP,AN,AQ,AO,AS,AK,BD,BF,BI,BJ,BH,BG,BE,A1,AZ,AY,AX,A4,A5])
   exact Cs hkl (gn (by simp) (IT hof ⟨ho.gen,ho.len,ho.fld⟩) hK)
 ·simp only [if_neg (show ¬(6:Int)=2 by decide),if_neg (show ¬(6:Int)=5 by decide),if_neg (show ¬(6:Int)=3 by decide)] at hK
  by_cases h20:(ob os k).roots=0
  ·rw [if_pos h20] at hK
   repeat' (first | refine BS ?_ | refine BM ?_ | refine QC ?_ | refine NM ?_ | refine CL (by first | with_reducible assumption | omega) rfl ?_ | refine CJ (by first | with_reducible assumption | omega) rfl ?_ | refine BT ?_ | refine CX (by first | with_reducible assumption | omega) ?_ | refine AW ?_ | refine BL ?_ | simp only [AI,AL,AH,AJ,AM,AE,AG,AR,AP,AN,AQ,AO,AS,AK,BD,BF,BI,BJ,BH,BG,BE,A1,AZ,AY,AX,A4,A5])
   exact hK
  ·rw [if_neg h20] at hK
   repeat' (first | refine BS ?_ | refine BM ?_ | refine QC ?_ | refine NM ?_ | refine CL (by first | with_reducible assumption | omega) rfl ?_ | refine CJ (by first | with_reducible assumption | omega) rfl ?_ | refine BT ?_ | refine C7 (by first | with_reducible assumption | omega) ?_ | refine AW ?_ | refine BL ?_ | refine CW ⟨by omega,by omega⟩ ?_ | refine AU (by omega) ?_ | simp only [AI,AL,AH,AJ,AM,AE,AG,AR,AP,AN,AQ,AO,AS,AK,BD,BF,BI,BJ,BH,BG,BE,A1,AZ,AY,AX,A4,A5])
   exact Cs hkl (ls (by simp) (IT hof ⟨ho.gen,ho.len,ho.fld⟩) hK)
end Go.Proofs.YtnhicpkhkaihoaaGreat.P
namespace Go.Proofs.YtnhicpkhkaihoaaGreat.P
open Go Go.Proofs.YtnhicpkhkaihoaaGreat Go.Proofs.YtnhicpkhkaihoaaGreat.Eng
set_option linter.unusedVariables false
set_option maxHeartbeats 4000000
set_option linter.unusedVariables false
set_option linter.unusedSimpArgs false
attribute [local irreducible] prP gP gE gF AV ixW ldc ldg ldl stc stg scW mkW apW BC cl2 BW F6 C2
variable {w0:World}
def HI (os:List A7) (buf:List Int) (a b c:Int):List A7×List Int×An:=
 if AB os a<0∨(c≠ -1∧AB os c<0) then (os,buf,⟨1,0,[]⟩) else
 if ¬(0≤b∧b≤2) then (os,buf,⟨2,0,[]⟩) else
 if gI (ob os (AB os a).toNat).field b.toNat= -1 then
  ((D8 os c).set (AB os a).toNat {ob (D8 os c) (AB os a).toNat with field:=(ob os (AB os a).toNat).field.set b.toNat c},buf,⟨0,0,[]⟩)
 else VK (H5 ((D8 os c).set (AB os a).toNat {ob (D8 os c) (AB os a).toNat with field:=(ob os (AB os a).toNat).field.set b.toNat c}) buf [gI (ob os (AB os a).toNat).field b.toNat])
theorem I7 {l:List A7} {i k:Nat} {o:A7} (hk:k<l.length):ob (l.set k o) i=if i=k then o else ob l i:=by
 unfold ob
 by_cases h:i=k
 ·subst h
  rw [if_pos rfl,List.getD_eq_getElem?_getD,List.getElem?_set_self hk];rfl
 ·rw [if_neg h,List.getD_eq_getElem?_getD,List.getElem?_set_ne (Ne.symm h),List.getD_eq_getElem?_getD]
theorem ZD {os:List A7} {id:Int} {i:Nat}:(ob (D8 os id) i).live=(ob os i).live∧(ob (D8 os id) i).gen=(ob os i).gen∧(ob (D8 os id) i).site=(ob os i).site∧(ob (D8 os id) i).holds=(ob os i).holds∧(ob (D8 os id) i).roots=(ob os i).roots∧(ob (D8 os id) i).field=(ob os i).field∧(ob (D8 os id) i).purple=(ob os i).purple:=by
 unfold D8
 split
 ·exact ⟨rfl,rfl,rfl,rfl,rfl,rfl,rfl⟩
 ·have hk:=BU (l:=os) (id:=id) (by omega)
  rw [I7 (by omega)]
  split
  ·rename_i h;subst h;exact ⟨rfl,rfl,rfl,rfl,rfl,rfl,rfl⟩
  ·exact ⟨rfl,rfl,rfl,rfl,rfl,rfl,rfl⟩
theorem stF {os:List A7} {k j:Nat} {v:Int} {K:List T→Prop} (hk:k<os.length) (hj:j<(ob os k).field.length) (h:K (tR tO (os.set k {ob os k with field:=(ob os k).field.set j v}))):stc (tR tO os) [AA (iv k)*8+6] (AA (iv j)*1) (I v) K:=by
 rw [←D6 hk] at h hj;exact qM hk hj h
theorem OF.put {o:A7} {m:List Int} (h:OF o) (hl:m.length=3) (hf: ∀x∈m,F64 x):OF {o with field:=m}:=⟨h.gen,hl,hf⟩
theorem gH {os:List A7} {buf:List Int} {b d:List T} {a0 a1 a2 a3:Int} {s:ByteArray} {K:J2} (hol:os.length=8) (hof: ∀o∈os,OF o) (hb:buf.length≤100) (h1:F64 a1) (h3:F64 a3) (h:K [I (HI os buf a1 a2 a3).2.2.code,I (HI os buf a1 a2 a3).2.2.val] [tI (HI os buf a1 a2 a3).2.2.freed,tR tO (HI os buf a1 a2 a3).1,tI (HI os buf a1 a2 a3).2.1]):cl2 ⟨Tryz.prog,w0⟩ 128 EN.sg [I a0,I a1,I a2,I a3, .string s] [tR tO os,b,tI buf,d] K:=by
 refine EN.cl2 ?_
 unfold EN.txt
 unfold HI at h
 refine C5 h1 (by omega) ?_
 by_cases hs:AB os a1<0
 ·rw [if_pos (.inl hs)] at h
  repeat' (first | exact B9 h | refine BM ?_ | refine sQ ?_ | refine WK (by first | with_reducible assumption | omega) ?_ | refine JZ (by first | with_reducible assumption | omega) ?_ | refine CL (by first | with_reducible assumption | omega) rfl ?_ | refine BQ ?_ | refine AW ?_)
 have hkb:=BU (l:=os) (id:=a1) (by omega)
 by_cases hc:a3≠ -1∧AB os a3<0
 ·obtain ⟨hc1,hc2⟩:=hc
  rw [if_pos (.inr ⟨hc1,hc2⟩)] at h
  repeat' (first | refine C5 h3 (by omega) ?_ | exact B9 h | refine BM ?_ | refine RS ?_ | refine RZ (by first | with_reducible assumption | omega) ?_ | refine HV (by first | with_reducible assumption | omega) ?_ | refine GA (by first | with_reducible assumption | omega) ?_ | refine CL (by first | with_reducible assumption | omega) rfl ?_ | refine CJ (by first | with_reducible assumption | omega) rfl ?_ | refine CX (by first | with_reducible assumption | omega) ?_ | refine AW ?_ | refine CB ?_)
 rw [if_neg (by omega)] at h
 by_cases hb2: ¬(0≤a2∧a2≤2)
 ·rw [if_pos hb2] at h
  repeat' (first | refine C5 h3 (by omega) ?_ | refine F8 ?_ | exact B9 h | refine BM ?_ | refine RS ?_ | refine RZ (by first | with_reducible assumption | omega) ?_ | refine HV (by first | with_reducible assumption | omega) ?_ | refine ME (by first | with_reducible assumption | omega) ?_ | refine GA (by first | with_reducible assumption | omega) ?_ | refine CL (by first | with_reducible assumption | omega) rfl ?_ | refine CJ (by first | with_reducible assumption | omega) rfl ?_ | refine BT ?_ | refine CX (by first | with_reducible assumption | omega) ?_ | refine C7 (by first | with_reducible assumption | omega) ?_ | refine AW ?_ | refine CB ?_ | refine CP ?_ | refine IQ (fun _=> ?_) (fun _=> ?_))
 rw [if_neg hb2] at h
 obtain ⟨k,hkk⟩: ∃k,(AB os a1).toNat=k:=⟨_,rfl⟩
 have hkI:AB os a1=(k:Int):=by omega
 rw [hkk] at h hkb
 obtain ⟨j,rfl⟩: ∃j:Nat,a2=j:=⟨a2.toNat,by omega⟩
 rw [Int.toNat_natCast] at h
 have hkl:k<os.length:=by omega
 have ho:=hof _ (HY (l:=os) (i:=k) (by omega))
 obtain ⟨_,_,_,_,_,gf,_⟩:=ZD (os:=os) (id:=a3) (i:=k)
 have gl:=QE os a3
 have gof:=VZ (id:=a3) hof
 have jl:j<(ob os k).field.length:=by rw [ho.len];omega
 rw [hkI]
 repeat' (first | refine C5 h3 (by omega) ?_ | refine F8 ?_ | refine RV h3 hol ?_ | refine BM ?_ | refine RS ?_ | refine YZ ?_ | refine M7 ?_ | refine HV (by first | with_reducible assumption | omega) ?_ | refine ME (by first | with_reducible assumption | omega) ?_ | refine CL (by first | with_reducible assumption | omega) rfl ?_ | refine CJ (by first | with_reducible assumption | omega) rfl ?_ | refine BT ?_ | refine C7 (by first | with_reducible assumption | omega) ?_ | refine AW ?_ | refine CB ?_ | refine CP ?_ | refine AU (by omega) ?_ | refine eY (by omega) ?_ | refine IQ (fun _=> ?_) (fun _=> ?_) | simp only [AI,AL,AH,AJ,AM,AE,AG,AR,AP,AN,AQ,AO,AS,AK,BD,BF,BI,BJ,BH,BG,BE,A1,AZ,AY,AX,A4,A5])
 all_goals
  refine AU (by rw [IK (by omega),AE,gf];exact jl) (N8 (by omega) (by rw [gf];exact jl) (AU (by omega) ?_))
  rw [gf]
  refine SW (f:=tO) (i:=k) (by omega) (by decide) rfl ?_
  refine AU (by rw [IK (by omega),AE,gf];exact jl) (stF (by omega) (by rw [gf];exact jl) ?_)
  rw [gf]
  refine BL (AT (fun he=> ?_) fun he=> ?_)
  ·rw [if_pos he] at h;exact h
  ·rw [if_neg he] at h
   exact SU (buf:=buf) (ids:=[gI (ob os k).field j]) (by simpa using gl.trans hol) (IT gof (OF.put (gof _ (HY (by omega))) (by rw [List.length_set];exact ho.len) fun x hx=>(List.mem_or_eq_of_mem_set hx).elim (ho.fld x) fun he=>he ▸ h3)) (by omega) (by simp) (by simpa using ho.fld _ (ER jl)) h
theorem ZU {h:Hp} {a0 a1 a2 a3:Int} {s:ByteArray} {K:J2} (st:St h) (h1:F64 a1) (h3:F64 a3) (hfd: ∀i, ∀f∈(ob h.BA i).field,f= -1∨0≤f) (hK:K [I (HI h.BA h.buffer a1 a2 a3).2.2.code,I (HI h.BA h.buffer a1 a2 a3).2.2.val] [tR tO (HI h.BA h.buffer a1 a2 a3).1,tR tW h.B7,tI (HI h.BA h.buffer a1 a2 a3).2.1,tS h.sites,tI (HI h.BA h.buffer a1 a2 a3).2.2.freed]):cl2 ⟨Tryz.prog,w0⟩ 106 HL.sg [I a0,I a1,I a2,I a3, .string s] (trees h) K:=by
 refine HL.cl2 ?_
 unfold HL.txt
 obtain ⟨os,ws,buf,ss⟩:=h
 have hol:os.length=8:=st.ol
 have hof: ∀o∈os,OF o:=st.of
 simp only at hK hfd
 simp only [trees]
 unfold HI at hK
 have gn: ∀{K:J2},K [] [tR tO (D8 os a3),tR tW ws,tI buf,tS ss]→cl2 ⟨Tryz.prog,w0⟩ 158 G6.sg [I a3] [tR tO os,tR tW ws,tI buf,tS ss] K:=fun hk=>XG st h3 hk
 have ls: ∀{os':List A7} {x:Int} {K:J2},os'.length=os.length→(∀o∈os',OF o)→F64 x→K [] [tR tO (H5 os' buf [x]).1,tR tW ws,tI (H5 os' buf [x]).2.1,tS ss,tI (H5 os' buf [x]).2.2]→cl2 ⟨Tryz.prog,w0⟩ 159 HT.sg [] [tR tO os',tR tW ws,tI buf,tS ss,tI [x]] K:=fun hl ho hx hk=>XB (St.set st hl ho) (by simp) (by simpa using hx) hk
 refine C6 h1 (by omega) ?_
 by_cases hs:AB os a1<0
 ·rw [if_pos (.inl hs)] at hK
  repeat' (first | exact hK | refine BM ?_ | refine sQ ?_ | refine WK (by first | with_reducible assumption | omega) ?_ | refine JZ (by first | with_reducible assumption | omega) ?_ | refine CL (by first | with_reducible assumption | omega) rfl ?_ | refine BQ ?_ | refine AW ?_)
 have hkb:=BU (l:=os) (id:=a1) (by omega)
 by_cases hc:a3≠ -1∧AB os a3<0
 ·obtain ⟨hc1,hc2⟩:=hc
  rw [if_pos (.inr ⟨hc1,hc2⟩)] at hK
  repeat' (first | refine C6 h3 (by omega) ?_ | exact hK | refine BM ?_ | refine RS ?_ | refine RZ (by first | with_reducible assumption | omega) ?_ | refine HV (by first | with_reducible assumption | omega) ?_ | refine GA (by first | with_reducible assumption | omega) ?_ | refine CL (by first | with_reducible assumption | omega) rfl ?_ | refine CJ (by first | with_reducible assumption | omega) rfl ?_ | refine CX (by first | with_reducible assumption | omega) ?_ | refine AW ?_ | refine CB ?_)
 rw [if_neg (by omega)] at hK
 by_cases hb2: ¬(0≤a2∧a2≤2)
 ·rw [if_pos hb2] at hK
  repeat' (first | refine C6 h3 (by omega) ?_ | refine DO ?_ | exact hK | refine BM ?_ | refine RS ?_ | refine RZ (by first | with_reducible assumption | omega) ?_ | refine HV (by first | with_reducible assumption | omega) ?_ | refine ME (by first | with_reducible assumption | omega) ?_ | refine GA (by first | with_reducible assumption | omega) ?_ | refine CL (by first | with_reducible assumption | omega) rfl ?_ | refine CJ (by first | with_reducible assumption | omega) rfl ?_ | refine BT ?_ | refine CX (by first | with_reducible assumption | omega) ?_ | refine C7 (by first | with_reducible assumption | omega) ?_ | refine AW ?_ | refine CB ?_ | refine CP ?_ | refine IQ (fun _=> ?_) (fun _=> ?_))
 rw [if_neg hb2] at hK
 obtain ⟨k,hkk⟩: ∃k,(AB os a1).toNat=k:=⟨_,rfl⟩
 have hkI:AB os a1=(k:Int):=by omega
 rw [hkk] at hK hkb
 obtain ⟨j,rfl⟩: ∃j:Nat,a2=j:=⟨a2.toNat,by omega⟩
 rw [Int.toNat_natCast] at hK
 have hkl:k<os.length:=by omega
 have ho:=hof _ (HY (l:=os) (i:=k) (by omega))
 obtain ⟨_,_,_,_,_,gf,_⟩:=ZD (os:=os) (id:=a3) (i:=k)
 have gl:=QE os a3
 have gof:=VZ (id:=a3) hof
 have jl:j<(ob os k).field.length:=by rw [ho.len];omega
 have hold:=hfd k _ (ER jl)
 rw [hkI]
 repeat' (first | refine C6 h3 (by omega) ?_ | refine DO ?_ | refine BM ?_ | refine RS ?_ | refine YZ ?_ | refine M7 ?_ | refine HV (by first | with_reducible assumption | omega) ?_ | refine ME (by first | with_reducible assumption | omega) ?_ | refine CL (by first | with_reducible assumption | omega) rfl ?_ | refine CJ (by first | with_reducible assumption | omega) rfl ?_ | refine BT ?_ | refine C7 (by first | with_reducible assumption | omega) ?_ | refine AW ?_ | refine CB ?_ | refine CP ?_ | refine AU (by omega) ?_ | refine eY (by omega) ?_ | refine IQ (fun _=> ?_) (fun _=> ?_) | simp only [AI,AL,AH,AJ,AM,AE,AG,AR,AP,AN,AQ,AO,AS,AK,BD,BF,BI,BJ,BH,BG,BE,A1,AZ,AY,AX,A4,A5])
 all_goals
  refine AU (by rw [IK (by omega),AE];exact jl) (N8 (by omega) jl (BS ?_))
  simp only [AI,AL,AH,AJ,AM,AE,AG,AR,AP,AN,AQ,AO,AS,AK,BD,BF,BI,BJ,BH,BG,BE,A1,AZ,AY,AX,A4,A5]
  refine I4 (AT (fun hge=>gn ?_) fun hlt=> ?_)
  ·simp only [AI,AL,AH,AJ,AM,AE,AG,AR,AP,AN,AQ,AO,AS,AK,BD,BF,BI,BJ,BH,BG,BE,A1,AZ,AY,AX,A4,A5]
   refine AU (by omega) (SW (f:=tO) (i:=k) (by omega) (by decide) rfl ?_)
   refine AU (by rw [IK (by omega),AE,gf];exact jl) (stF (by omega) (by rw [gf];exact jl) ?_)
   rw [gf]
   refine AW (AT (fun he=> ?_) fun he=> ?_)
   ·rw [if_pos (by omega)] at hK;exact hK
   ·rw [if_neg (by omega)] at hK
    exact ls (by simpa using gl) (IT gof (OF.put (gof _ (HY (by omega))) (by rw [List.length_set];exact ho.len) fun x hx=>(List.mem_or_eq_of_mem_set hx).elim (ho.fld x) fun he=>he ▸ h3)) (ho.fld _ (ER jl)) hK
  ·have e0:D8 os a3=os:=by unfold D8;rw [if_pos];rw [MJ (by omega)];decide
   rw [e0] at hK
   refine AU (by omega) (SW (f:=tO) (i:=k) (by omega) (by decide) rfl ?_)
   refine AU (by rw [IK (by omega),AE];exact jl) (stF (by omega) jl ?_)
   refine AW (AT (fun he=> ?_) fun he=> ?_)
   ·rw [if_pos (by omega)] at hK;exact hK
   ·rw [if_neg (by omega)] at hK
    exact ls (by simp) (IT hof (OF.put ho (by rw [List.length_set];exact ho.len) fun x hx=>(List.mem_or_eq_of_mem_set hx).elim (ho.fld x) fun he=>he ▸ h3)) (ho.fld _ (ER jl)) hK
def NA (os:List A7) (ws:List Wk) (id:Int):List Wk×An:=
 if AB os id<0 then (ws,⟨1,0,[]⟩) else if KM ws<0 then (ws,⟨3,0,[]⟩) else (ws.set (KM ws).toNat ⟨true,id⟩,⟨0,KM ws,[]⟩)
def IJ (os:List A7) (ws:List Wk) (kind k:Int):List Wk×An:=
 if ¬(0≤k∧k≤(ws.length:Int)-1) then (ws,⟨2,0,[]⟩) else
 if (wk ws k.toNat).used=false then (ws,⟨2,0,[]⟩) else
 if kind=9 then (ws.set k.toNat ⟨false,0⟩,⟨0,0,[]⟩) else
 if AB os (wk ws k.toNat).target<0 then (ws,⟨0, -1,[]⟩) else (ws,⟨0,(wk ws k.toNat).target,[]⟩)
theorem W5 {ws:List Wk} (h: ¬KM ws<0):(KM ws).toNat<ws.length∧KM ws=((KM ws).toNat:Int)∧(wk ws (KM ws).toNat).used=false:=by
 rcases U6 ws.length (fun i=> !(wk ws i).used) with ⟨h1,_⟩ | ⟨i,h1,h2,h3,_⟩
 ·unfold KM at h;omega
 ·have e:KM ws=i:=h2
  have e2:(KM ws).toNat=i:=by omega
  rw [e2];exact ⟨h1,e,by simpa using h3⟩
theorem jZ {os:List A7} {ws:List Wk} {c d:List T} {id:Int} {K:J2} (hol:os.length=8) (hwl:ws.length=8) (hid:F64 id) (h:K [I (NA os ws id).2.code,I (NA os ws id).2.val] [tI (NA os ws id).2.freed,tR tW (NA os ws id).1]):cl2 ⟨Tryz.prog,w0⟩ 129 FK.sg [I id] [tR tO os,tR tW ws,c,d] K:=by
 refine FK.cl2 ?_
 unfold FK.txt
 unfold NA at h
 simp only [AI,AL,AH,AJ,AM,AE,AG,AR,AP,AN,AQ,AO,AS,AK,BD,BF,BI,BJ,BH,BG,BE,A1,AZ,AY,AX,A4,A5]
 refine X2 hwl (C5 hid (by omega) (AW (AT (fun hs=> ?_) fun hs=> ?_)))
 ·rw [if_pos hs] at h;exact B9 h
 rw [if_neg hs] at h
 refine AW (AT (fun hf=> ?_) fun hf=> ?_)
 ·rw [if_pos hf] at h;exact B9 h
 rw [if_neg hf] at h
 obtain ⟨f1,f2,f3⟩:=W5 hf
 simp only [AI,AL,AH,AJ,AM,AE,AG,AR,AP,AN,AQ,AO,AS,AK,BD,BF,BI,BJ,BH,BG,BE,A1,AZ,AY,AX,A4,A5]
 rw [f2] at h ⊢
 rw [Int.toNat_natCast] at h
 exact AU f1 (OA (f:=tW) f1 (y:=⟨true,id⟩) rfl h)
theorem bH {os:List A7} {ws:List Wk} {c d:List T} {kind k:Int} {K:J2} (hol:os.length=8) (hwl:ws.length=8) (hk:F64 k) (hwf: ∀w∈ws,F64 w.target) (h:K [I (IJ os ws kind k).2.code,I (IJ os ws kind k).2.val] [tI (IJ os ws kind k).2.freed,tR tW (IJ os ws kind k).1]):cl2 ⟨Tryz.prog,w0⟩ 130 DY.sg [I kind,I k] [tR tO os,tR tW ws,c,d] K:=by
 refine DY.cl2 ?_
 unfold DY.txt
 unfold IJ at h
 simp only [AI,AL,AH,AJ,AM,AE,AG,AR,AP,AN,AQ,AO,AS,AK,BD,BF,BI,BJ,BH,BG,BE,A1,AZ,AY,AX,A4,A5]
 refine DZ ⟨by omega,by omega⟩ (F8 (CP ?_))
 by_cases hb: ¬(0≤k∧k≤(ws.length:Int)-1)
 ·rw [if_pos hb] at h
  repeat' (first | exact B9 h | refine BM ?_ | refine JZ (by first | with_reducible assumption | omega) ?_ | refine CL (by first | with_reducible assumption | omega) rfl ?_ | refine BQ ?_)
 rw [if_neg hb] at h
 obtain ⟨j,rfl⟩: ∃j:Nat,k=j:=⟨k.toNat,by omega⟩
 rw [Int.toNat_natCast] at h
 have jl:j<ws.length:=by omega
 have hw:=hwf _ (List.getElem_mem jl)
 rw [cQ jl] at hw
 cases hu:(wk ws j).used with
 | false=>
   rw [if_pos hu] at h
   repeat' (first | refine SZ (v:= .bool false) jl (by simp [tW,hu]) ?_ | exact B9 h | refine BM ?_ | refine GA (by first | with_reducible assumption | omega) ?_ | refine CJ (by first | with_reducible assumption | omega) rfl ?_ | refine BQ ?_ | refine AU (by omega) ?_ | refine BP ?_)
 | true=>
   rw [if_neg (by rw [hu];decide)] at h
   repeat' (first | refine SZ (v:= .bool true) jl (by simp [tW,hu]) ?_ | refine C5 hw (by omega) ?_ | refine BM ?_ | refine GA (by first | with_reducible assumption | omega) ?_ | refine CJ (by first | with_reducible assumption | omega) rfl ?_ | refine BT ?_ | refine AW ?_ | refine BL ?_ | refine AU (by omega) ?_ | refine uR (by omega) (by decide) rfl ?_ | refine AT (fun _=> ?_) (fun _=> ?_) | refine BP ?_)
   ·rename_i hh
    rw [if_pos hh] at h
    exact OA (f:=tW) jl (y:=⟨false,0⟩) rfl h
   ·rename_i hh hs
    rw [if_neg hh,if_pos hs] at h
    exact h
   ·rename_i hh hs
    rw [if_neg hh,if_neg hs] at h
    exact h
theorem bN {os:List A7} {ws:List Wk} {cc d:List T} {kind k b c:Int} {s:ByteArray} {K:J2} (hol:os.length=8) (hwl:ws.length=8) (hk:F64 k) (hwf: ∀w∈ws,F64 w.target) (h7:kind=7→K [I (NA os ws k).2.code,I (NA os ws k).2.val] [tR tW (NA os ws k).1,tI (NA os ws k).2.freed]) (h:kind≠7→K [I (IJ os ws kind k).2.code,I (IJ os ws kind k).2.val] [tR tW (IJ os ws kind k).1,tI (IJ os ws kind k).2.freed]):cl2 ⟨Tryz.prog,w0⟩ 107 H7.sg [I kind,I k,I b,I c, .string s] [tR tO os,tR tW ws,cc,d] K:=by
 refine H7.cl2 ?_
 unfold H7.txt
 simp only [AI,AL,AH,AJ,AM,AE,AG,AR,AP,AN,AQ,AO,AS,AK,BD,BF,BI,BJ,BH,BG,BE,A1,AZ,AY,AX,A4,A5]
 refine BL (AT (fun he=> ?_) fun he=> ?_)
 ·replace h:=h7 he
  clear h7
  unfold NA at h
  refine C6 hk (by omega) (AW (AT (fun hs=> ?_) fun hs=> ?_))
  ·rw [if_pos hs] at h;exact h
  rw [if_neg hs] at h
  refine A8 (fun i=>[iv i,I kind,I k,I b,I c, .string s,I 0,I 0]) (fun _=>[tR tW ws]) ws.length (fun i=> ∀j,j<i→(!(wk ws j).used)=false) rfl rfl (fun k hk=>by omega) (fun R i hi hP hR=> ?_)
  simp only [AI,AL,AH,AJ,AM,AE,AG,AR,AP,AN,AQ,AO,AS,AK,BD,BF,BI,BJ,BH,BG,BE,A1,AZ,AY,AX,A4,A5]
  refine AW (AT (fun hlt=> ?_) fun hge=> ?_)
  ·have hlt:i<ws.length:=by omega
   cases hv:(wk ws i).used with
   | false=>
     refine AU hlt (SZ (v:= .bool false) hlt (by simp [tW,hv]) (BP (BQ (AU hlt ?_))))
     unfold KM at h
     rw [OZ hlt (by rw [hv];rfl) hP,if_neg (by omega),Int.toNat_natCast] at h
     exact OA (f:=tW) hlt (y:=⟨true,k⟩) rfl h
   | true=>
     refine AU hlt (SZ (v:= .bool true) hlt (by simp [tW,hv]) (BP (BT (A6 (by omega) (hR hlt fun k hk=> ?_)))))
     rcases Nat.lt_succ_iff_lt_or_eq.1 hk with h3 | rfl
     ·exact hP k h3
     ·rw [hv];rfl
  ·have:i=ws.length:=by omega
   subst this
   unfold KM at h
   rw [S5 hP,if_pos (by decide)] at h;exact h
 ·replace h:=h he
  clear h7
  unfold IJ at h
  refine DZ ⟨by omega,by omega⟩ (DO (CP ?_))
  by_cases hb: ¬(0≤k∧k≤(ws.length:Int)-1)
  ·rw [if_pos hb] at h
   repeat' (first | exact h | refine BM ?_ | refine JZ (by first | with_reducible assumption | omega) ?_ | refine CL (by first | with_reducible assumption | omega) rfl ?_ | refine BQ ?_)
  rw [if_neg hb] at h
  obtain ⟨j,rfl⟩: ∃j:Nat,k=j:=⟨k.toNat,by omega⟩
  rw [Int.toNat_natCast] at h
  have jl:j<ws.length:=by omega
  have hw:=hwf _ (List.getElem_mem jl)
  rw [cQ jl] at hw
  cases hu:(wk ws j).used with
  | false=>
    rw [if_pos hu] at h
    repeat' (first | refine SZ (v:= .bool false) jl (by simp [tW,hu]) ?_ | exact h | refine BM ?_ | refine GA (by first | with_reducible assumption | omega) ?_ | refine CJ (by first | with_reducible assumption | omega) rfl ?_ | refine BQ ?_ | refine AU (by omega) ?_ | refine BP ?_)
  | true=>
    rw [if_neg (by rw [hu];decide)] at h
    repeat' (first | refine SZ (v:= .bool true) jl (by simp [tW,hu]) ?_ | refine C6 hw (by omega) ?_ | refine BM ?_ | refine GA (by first | with_reducible assumption | omega) ?_ | refine CJ (by first | with_reducible assumption | omega) rfl ?_ | refine BT ?_ | refine AW ?_ | refine BL ?_ | refine AU (by omega) ?_ | refine uR (by omega) (by decide) rfl ?_ | refine AT (fun _=> ?_) (fun _=> ?_) | refine BP ?_)
    ·rename_i hh
     rw [if_pos hh] at h
     exact OA (f:=tW) jl (y:=⟨false,0⟩) rfl h
    ·rename_i hh hs
     rw [if_neg hh,if_pos hs] at h
     exact h
    ·rename_i hh hs
     rw [if_neg hh,if_neg hs] at h
     exact h
end Go.Proofs.YtnhicpkhkaihoaaGreat.P
