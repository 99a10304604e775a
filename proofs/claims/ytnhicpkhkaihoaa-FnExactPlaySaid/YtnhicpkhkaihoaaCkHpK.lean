/- A part of the proof. -/
import Derived.Test.YtnhicpkhkaihoaaCkHpI
namespace Go.Proofs.Ytnhicpkhkaihoaa.P
open Go Go.Proofs.Ytnhicpkhkaihoaa Go.Proofs.Ytnhicpkhkaihoaa.Eng
set_option linter.unusedVariables false
set_option maxHeartbeats 4000000
set_option linter.unusedVariables false
set_option linter.unusedSimpArgs false
attribute [local irreducible] prP gP gE gF AU ixW ldc ldg ldl stc stg scW mkW apW BD cl2 BW FR DK
variable {w0:World}
def MV (n:Nat) (p:Nat→Bool):Int:=match (List.range n).find? p with
 | some i=>(i:Int)
 | none=> -1
theorem MO {n i:Nat} {p:Nat→Bool} (hi:i<n) (h:p i=true) (hb: ∀k,k<i→p k=false):MV n p=i:=by
 have:(List.range n).find? p=some i:=List.find?_range_eq_some.2 ⟨h,List.mem_range.2 hi,fun j hj=>by rw [hb j hj];rfl⟩
 rw [MV,this]
theorem PU {n:Nat} {p:Nat→Bool} (hb: ∀k,k<n→p k=false):MV n p= -1:=by
 have:(List.range n).find? p=none:=List.find?_range_eq_none.2 fun j hj=>by rw [hb j hj];rfl
 rw [MV,this]
theorem RN (n:Nat) (p:Nat→Bool):(MV n p= -1∧ ∀k,k<n→p k=false)∨ ∃i,i<n∧MV n p=(i:Int)∧p i=true∧ ∀k,k<i→p k=false:=by
 cases h:(List.range n).find? p with
 | none=>exact .inl ⟨by rw [MV,h],fun k hk=>by have:=List.find?_range_eq_none.1 h k hk;simpa using this⟩
 | some i=>
   obtain ⟨h1,h2,h3⟩:=List.find?_range_eq_some.1 h
   exact .inr ⟨i,List.mem_range.1 h2,by rw [MV,h],h1,fun k hk=>by have:=h3 k hk;simpa using this⟩
def IN (os:List AX) (i:Nat):Bool:= !(ob os i).live&&decide ((ob os i).gen<999)
def CB (os:List AX):Int:=MV os.length (IN os)
def IQ (ws:List Wk):Int:=MV ws.length fun i=> !(wk ws i).used
theorem UO {os:List AX} {b c d:List T} {K:J2} (hol:os.length=8) (h:K [I (CB os)] []):cl2 ⟨Try.prog,w0⟩ 215 EW.sg [] [tR tO os,b,c,d] K:=by
 refine EW.cl2 ?_
 unfold EW.txt
 simp only [AI,AM,AP,AR,AT,AD,AH,AL,AK,AO,AQ,AJ,AS,AN,BE,BJ,BH,BK,BI,BG,BF,A1,AZ,A5,A7,A6,A4]
 refine BA (fun i=>[iv os.length,iv i]) (fun _=>[]) os.length (fun i=> ∀k,k<i→IN os k=false) rfl rfl (fun k hk=>by omega) (fun R i hi hP hR=> ?_)
 simp only [AI,AM,AP,AR,AT,AD,AH,AL,AK,AO,AQ,AJ,AS,AN,BE,BJ,BH,BK,BI,BG,BF,A1,AZ,A5,A7,A6,A4]
 refine AV (AW (fun hlt=> ?_) fun hge=> ?_)
 ·have hlt:i<os.length:=by omega
  refine AG hlt (OZ hlt ?_)
  simp only [mQ,oO]
  have no:IN os i=false→R [iv os.length,iv (i+1)] []:=fun hn=>hR hlt fun k hk=>(Nat.lt_succ_iff_lt_or_eq.1 hk).elim (hP k) fun he=>he ▸ hn
  have yes:IN os i=true→K [iv i] []:=fun hy=>by unfold CB at h;rw [MO hlt hy hP] at h;exact h
  cases hv:(ob os i).live with
  | false=>
    repeat' (first | refine BZ ?_ | refine OL ?_ | refine I5 (by first | with_reducible assumption | omega) ?_ | refine EF (by first | with_reducible assumption | omega) rfl ?_ | refine YD rfl ?_ | refine AV ?_ | refine A8 (by omega) ?_ | refine AW (fun _=> ?_) (fun _=> ?_) | refine BY ?_)
    ·exact yes (by simp [IN,hv];omega)
    ·exact no (by simp [IN,hv];omega)
  | true=>
    repeat' (first | refine BZ ?_ | refine OM ?_ | refine I5 (by first | with_reducible assumption | omega) ?_ | refine EF (by first | with_reducible assumption | omega) rfl ?_ | refine lJ rfl ?_ | refine BN ?_ | refine AV ?_ | refine A8 (by omega) ?_ | refine BY ?_)
    all_goals exact no (by simp [IN,hv])
 ·have:i=os.length:=by omega
  subst this
  unfold CB at h
  rw [PU hP] at h;exact h
theorem UH {os:List AX} {b c d:List T} {K:J2} (hol:os.length=8) (h:K [I (CB os)] []):cl2 ⟨Try.prog,w0⟩ 191 ES.sg [] [tR tO os,b,c,d] K:=by
 refine ES.cl2 ?_
 unfold ES.txt
 simp only [AI,AM,AP,AR,AT,AD,AH,AL,AK,AO,AQ,AJ,AS,AN,BE,BJ,BH,BK,BI,BG,BF,A1,AZ,A5,A7,A6,A4]
 refine BA (fun i=>[iv i]) (fun _=>[]) os.length (fun i=> ∀k,k<i→IN os k=false) rfl rfl (fun k hk=>by omega) (fun R i hi hP hR=> ?_)
 simp only [AI,AM,AP,AR,AT,AD,AH,AL,AK,AO,AQ,AJ,AS,AN,BE,BJ,BH,BK,BI,BG,BF,A1,AZ,A5,A7,A6,A4]
 refine AV (BZ (LY (fun hlt=> ?_) fun hge=> ?_))
 ·have hlt':i<os.length:=by omega
  refine AV (EF hlt rfl (DN (by omega) ?_))
  have no:IN os i=false→R [iv (i+1)] []:=fun hn=>hR hlt' fun k hk=>(Nat.lt_succ_iff_lt_or_eq.1 hk).elim (hP k) fun he=>he ▸ hn
  have yes:IN os i=true→K [iv i] []:=fun hy=>by unfold CB at h;rw [MO hlt' hy hP] at h;exact h
  refine AG hlt' ?_
  cases hv:(ob os i).live with
  | false=>
    refine K2 (v:= .bool false) hlt' (by simp [tO,hv]) (BY ?_)
    repeat' (first | refine AG hlt' ?_ | refine H0 (v:=I (ob os i).gen) hlt' (by decide) rfl ?_ | refine BZ ?_ | refine OL ?_ | refine YD rfl ?_ | refine AV ?_ | refine A8 (by omega) ?_ | refine AW (fun _=> ?_) (fun _=> ?_))
    ·exact yes (by simp [IN,hv];omega)
    ·exact no (by simp [IN,hv];omega)
  | true=>
    refine K2 (v:= .bool true) hlt' (by simp [tO,hv]) (BY ?_)
    repeat' (first | refine BZ ?_ | refine OM ?_ | refine lJ rfl ?_ | refine BN ?_ | refine A8 (by omega) ?_)
    all_goals exact no (by simp [IN,hv])
 ·refine E9 hge rfl (BN ?_)
  have:i=os.length:=by omega
  subst this
  unfold CB at h
  rw [PU hP] at h;exact h
theorem T7 {ws:List Wk} {K:J2} (hol:ws.length=8) (h:K [I (IQ ws)] []):cl2 ⟨Try.prog,w0⟩ 218 EO.sg [] [tR tW ws] K:=by
 refine EO.cl2 ?_
 unfold EO.txt
 simp only [AI,AM,AP,AR,AT,AD,AH,AL,AK,AO,AQ,AJ,AS,AN,BE,BJ,BH,BK,BI,BG,BF,A1,AZ,A5,A7,A6,A4]
 refine BA (fun i=>[iv ws.length,iv i]) (fun _=>[]) ws.length (fun i=> ∀k,k<i→(!(wk ws k).used)=false) rfl rfl (fun k hk=>by omega) (fun R i hi hP hR=> ?_)
 simp only [AI,AM,AP,AR,AT,AD,AH,AL,AK,AO,AQ,AJ,AS,AN,BE,BJ,BH,BK,BI,BG,BF,A1,AZ,A5,A7,A6,A4]
 refine AV (AW (fun hlt=> ?_) fun hge=> ?_)
 ·have hlt:i<ws.length:=by omega
  refine AG hlt (oX hlt ?_)
  simp only [rW]
  cases hv:(wk ws i).used with
  | false=>
    refine BY (B4 ?_)
    unfold IQ at h
    rw [MO hlt (by rw [hv];rfl) hP] at h;exact h
  | true=>
    refine BY (BN (A8 (by omega) (hR hlt fun k hk=> ?_)))
    rcases Nat.lt_succ_iff_lt_or_eq.1 hk with h3 | rfl
    ·exact hP k h3
    ·rw [hv];rfl
 ·have:i=ws.length:=by omega
  subst this
  unfold IQ at h
  rw [PU hP] at h;exact h
theorem B3 {n:Int} {K:J2} (h:K [I n,I 0] [[]]):cl2 ⟨Try.prog,w0⟩ 143 BS.sg [I n] [] K:=BS.cl2 h
def K5 (g s:Int):AX:=⟨true,g,s,1,0,1,ON,false⟩
def FN (os:List AX) (ss:List ByteArray) (s:ByteArray):List AX×List ByteArray×An:=
 if ¬(1≤(s.size:Int)∧(s.size:Int)≤8) then (os,ss,⟨2,0,[]⟩)
 else if CB os<0 then (os,ss,⟨3,0,[]⟩)
 else if at_ ss s<0∧6≤ss.length then (os,ss,⟨6,0,[]⟩)
 else (os.set (CB os).toNat (K5 (w64 ((ob os (CB os).toNat).gen+1)) (if at_ ss s<0 then ss.length else at_ ss s)),(if at_ ss s<0 then ss++[s] else ss),⟨0,CQ (CB os) (w64 ((ob os (CB os).toNat).gen+1)),[]⟩)
theorem O2 {os:List AX} (h: ¬CB os<0):(CB os).toNat<os.length∧CB os=((CB os).toNat:Int)∧IN os (CB os).toNat=true:=by
 rcases RN os.length (IN os) with ⟨h1,_⟩ | ⟨i,h1,h2,h3,_⟩
 ·unfold CB at h;omega
 ·have e:CB os=i:=h2
  have e2:(CB os).toNat=i:=by omega
  rw [e2];exact ⟨h1,e,h3⟩
theorem bJ {os:List AX} {b c:List T} {ss:List ByteArray} {s:ByteArray} {K:J2} (hol:os.length=8) (hsl:ss.length≤6) (h:K [I (FN os ss s).2.2.code,I (FN os ss s).2.2.val] [tI (FN os ss s).2.2.freed,tR tO (FN os ss s).1,tS (FN os ss s).2.1]):cl2 ⟨Try.prog,w0⟩ 183 DR.sg [.string s] [tR tO os,b,c,tS ss] K:=by
 refine DR.cl2 ?_
 unfold DR.txt
 refine UO hol (XZ (by omega) (BU ?_))
 simp only [AI,AM,AP,AR,AT,AD,AH,AL,AK,AO,AQ,AJ,AS,AN,BE,BJ,BH,BK,BI,BG,BF,A1,AZ,A5,A7,A6,A4]
 unfold FN at h
 refine UY (I6 (DE (AW (fun hb=> ?_) fun hb=> ?_)))
 ·rw [if_pos hb] at h
  exact B3 h
 rw [if_neg hb] at h
 refine AV (AW (fun hf=> ?_) fun hf=> ?_)
 ·rw [if_pos hf] at h
  exact B3 h
 rw [if_neg hf] at h
 obtain ⟨f1,f2,f3⟩:=O2 hf
 refine AV ?_
 by_cases ha:at_ ss s<0
 ·by_cases h6:6≤ss.length
  ·rw [if_pos ⟨ha,h6⟩] at h
   repeat' (first | exact B3 h | refine BZ ?_ | refine I5 (by first | with_reducible assumption | omega) ?_ | refine EF (by first | with_reducible assumption | omega) rfl ?_ | refine DN (by first | with_reducible assumption | omega) ?_ | refine HY ?_)
   all_goals omega
  ·rw [if_neg (by omega),if_pos ha,if_pos ha] at h
   repeat' (first | refine BZ ?_ | refine I5 (by first | with_reducible assumption | omega) ?_ | refine EF (by first | with_reducible assumption | omega) rfl ?_ | refine DN (by first | with_reducible assumption | omega) ?_ | refine B2 (by first | with_reducible assumption | omega) ?_ | refine AV ?_ | refine HY ?_ | refine HS ?_ | refine TV (by omega) (by omega) ?_ | refine H0 (by omega) (by decide) rfl ?_ | refine FM (by first | exact MD _ | exact aA _ | exact ZL _ | exact pF _ | rfl) (by omega) ?_)
   exact KQ (y:=K5 (w64 ((ob os (CB os).toNat).gen+1)) ss.length) (by omega) rfl (MI (by rw [←iO] at h;exact h))
 ·rw [if_neg (by omega),if_neg ha,if_neg ha] at h
  repeat' (first | refine BZ ?_ | refine OO (by first | with_reducible assumption | omega) ?_ | refine E9 (by first | with_reducible assumption | omega) rfl ?_ | refine BN ?_ | refine B2 (by first | with_reducible assumption | omega) ?_ | refine AV ?_ | refine HS ?_ | refine TV (by omega) (by omega) ?_ | refine H0 (by omega) (by decide) rfl ?_)
  exact KQ (y:=K5 (w64 ((ob os (CB os).toNat).gen+1)) (at_ ss s)) (by omega) rfl (MI h)
theorem pQ {l:List ByteArray} {x s:ByteArray} (h:x∉l):at_ (l++[x]) s=if x=s then (l.length:Int) else at_ l s:=by
 unfold at_
 by_cases hs:s∈l
 ·rw [if_pos (List.mem_append_left _ hs),if_pos hs,List.idxOf_append,if_pos hs,if_neg (show ¬x=s from fun he=>h (he ▸ hs))]
 ·by_cases hx:x=s
  ·rw [if_pos (by simp [hx]),if_pos hx,List.idxOf_append,if_neg hs]
   simp [hx]
  ·rw [if_neg (by simp [hs,Ne.symm hx]),if_neg hx,if_neg hs]
theorem WZ {os:List AX} {b c:List T} {ss:List ByteArray} {s:ByteArray} {k1 k2 k3 k4:Int} {K:J2} (hol:os.length=8) (hss:MS ss) (h:K [I (FN os ss s).2.2.code,I (FN os ss s).2.2.val] [tR tO (FN os ss s).1,tS (FN os ss s).2.1,tI (FN os ss s).2.2.freed]):cl2 ⟨Try.prog,w0⟩ 136 FZ.sg [I k1,I k2,I k3,I k4, .string s] [tR tO os,b,c,tS ss] K:=by
 have hsl:=hss.len
 refine FZ.cl2 ?_
 unfold FZ.txt
 unfold FN at h
 refine UY (DW (DE (AW (fun hb=> ?_) fun hb=> ?_)))
 ·rw [if_pos hb] at h
  exact h
 rw [if_neg hb] at h
 refine UH hol (AV (AW (fun hf=> ?_) fun hf=> ?_))
 ·rw [if_pos hf] at h
  exact h
 rw [if_neg hf] at h
 obtain ⟨f1,f2,f3⟩:=O2 hf
 refine BA (fun i=>[I (CB os),I (at_ (ss.take i) s),iv i,I k1,I k2,I k3,I k4, .string s,I 0,I 0]) (fun _=>[tR tO os,tS ss]) ss.length (fun i=>True) rfl rfl trivial (fun R i hi hP hR=> ?_)
 simp only [AI,AM,AP,AR,AT,AD,AH,AL,AK,AO,AQ,AJ,AS,AN,BE,BJ,BH,BK,BI,BG,BF,A1,AZ,A5,A7,A6,A4]
 simp only [BF,tU,s7,tL]
 refine AV (AW (fun hlt=> ?_) fun hge=> ?_)
 ·have hlt:i<ss.length:=by omega
  replace hR:=hR hlt trivial
  have hone:=hss.one i hlt
  rw [List.take_succ_eq_append_getElem hlt,TO hlt,pQ hone] at hR
  refine BU (AG hlt (ldS hlt (cE (AW (fun he=> ?_) fun he=> ?_))))
  ·rw [if_pos he,List.length_take,Nat.min_eq_left hi] at hR
   exact A8 (by omega) hR
  ·rw [if_neg he] at hR
   exact A8 (by omega) hR
 ·have:i=ss.length:=by omega
  subst this
  rw [List.take_length]
  refine AV ?_
  by_cases ha:at_ ss s<0
  ·by_cases h6:6≤ss.length
   ·rw [if_pos ⟨ha,h6⟩] at h
    repeat' (first | exact h | refine BZ ?_ | refine I5 (by first | with_reducible assumption | omega) ?_ | refine EF (by first | with_reducible assumption | omega) rfl ?_ | refine DN (by first | with_reducible assumption | omega) ?_ | refine HY ?_)
    all_goals omega
   ·rw [if_neg (by omega),if_pos ha,if_pos ha] at h
    refine BZ (BZ (BZ (I5 ha (MJ (EF ha rfl (B2 (by omega) (BU (AV (DN ha (FM rfl (by omega) ?_))))))))))
    repeat' (first | refine IV ?_ | refine HS ?_ | refine TV (by omega) (by omega) ?_ | refine H0 (by omega) (by decide) rfl ?_ | simp only [AI,AM,AP,AR,AT,AD,AH,AL,AK,AO,AQ,AJ,AS,AN,BE,BJ,BH,BK,BI,BG,BF,A1,AZ,A5,A7,A6,A4])
    rw [←iO] at h
    exact KQ (y:=K5 (w64 ((ob os (CB os).toNat).gen+1)) ss.length) (by omega) rfl (KF h)
  ·rw [if_neg (by omega),if_neg ha,if_neg ha] at h
   refine BZ (BZ (BZ (OO ha (E9 ha rfl (BN (BU (AV (B2 (by omega) ?_))))))))
   repeat' (first | refine IV ?_ | refine HS ?_ | refine TV (by omega) (by omega) ?_ | refine H0 (by omega) (by decide) rfl ?_ | simp only [AI,AM,AP,AR,AT,AD,AH,AL,AK,AO,AQ,AJ,AS,AN,BE,BJ,BH,BK,BI,BG,BF,A1,AZ,A5,A7,A6,A4])
   exact KQ (y:=K5 (w64 ((ob os (CB os).toNat).gen+1)) (at_ ss s)) (by omega) rfl (KF h)
def oV (r:List AX×List Int×List Int):List AX×List Int×An:=(r.1,r.2.1,⟨0,0,r.2.2⟩)
def H8 (os:List AX) (buf:List Int) (kind id:Int):List AX×List Int×An:=
 if AB os id<0 then (os,buf,⟨1,0,[]⟩) else
 if kind=2 then
  if (ob os (AB os id).toNat).holds=20 then (os,buf,⟨4,0,[]⟩) else (DF (os.set (AB os id).toNat {ob os (AB os id).toNat with holds:=(ob os (AB os id).toNat).holds+1}) id,buf,⟨0,0,[]⟩)
 else if kind=5 then
  if (ob os (AB os id).toNat).roots=20 then (os,buf,⟨4,0,[]⟩) else (DF (os.set (AB os id).toNat {ob os (AB os id).toNat with roots:=(ob os (AB os id).toNat).roots+1}) id,buf,⟨0,0,[]⟩)
 else if kind=3 then
  if (ob os (AB os id).toNat).holds=0 then (os,buf,⟨5,0,[]⟩) else oV (G6 (os.set (AB os id).toNat {ob os (AB os id).toNat with holds:=(ob os (AB os id).toNat).holds-1}) buf [id])
 else
  if (ob os (AB os id).toNat).roots=0 then (os,buf,⟨5,0,[]⟩) else oV (G6 (os.set (AB os id).toNat {ob os (AB os id).toNat with roots:=(ob os (AB os id).toNat).roots-1}) buf [id])
theorem stH {os:List AX} {k:Nat} {v:Int} {K:List T→Prop} (hk:k<os.length) (h:K (tR tO (os.set k {ob os k with holds:=v}))):stc (tR tO os) [] (AA (iv (AA (iv k)*8+3))) (I v) K:=by
 rw [AY (AA (iv k)*8+3), ←DU hk] at*;exact YS hk h
theorem stR {os:List AX} {k:Nat} {v:Int} {K:List T→Prop} (hk:k<os.length) (h:K (tR tO (os.set k {ob os k with roots:=v}))):stc (tR tO os) [] (AA (iv (AA (iv k)*8+4))) (I v) K:=by
 rw [AY (AA (iv k)*8+4), ←DU hk] at*;exact TK hk (by decide) rfl rfl h
theorem XH {os:List AX} {buf:List Int} {b d:List T} {kind id:Int} {K:J2} (hol:os.length=8) (hof: ∀o∈os,OF o) (hb:buf.length≤100) (hid:F64 id) (hkd:kind=2∨kind=3∨kind=5∨kind=6) (hr: ∀i,(0≤(ob os i).holds∧(ob os i).holds≤20)∧(0≤(ob os i).roots∧(ob os i).roots≤20)) (h:K [I (H8 os buf kind id).2.2.code,I (H8 os buf kind id).2.2.val] [tI (H8 os buf kind id).2.2.freed,tR tO (H8 os buf kind id).1,tI (H8 os buf kind id).2.1]):cl2 ⟨Try.prog,w0⟩ 184 C0.sg [I kind,I id] [tR tO os,b,tI buf,d] K:=by
 refine C0.cl2 ?_
 unfold C0.txt
 simp only [AI,AM,AP,AR,AT,AD,AH,AL,AK,AO,AQ,AJ,AS,AN,BE,BJ,BH,BK,BI,BG,BF,A1,AZ,A5,A7,A6,A4]
 unfold H8 at h
 refine DA hid (by omega) (AV (AW (fun hs=> ?_) fun hs=> ?_))
 ·rw [if_pos hs] at h
  exact B3 h
 rw [if_neg hs] at h
 have hkb:=BL (l:=os) (id:=id) (by omega)
 obtain ⟨k,hkk⟩: ∃k,(AB os id).toNat=k:=⟨_,rfl⟩
 have hkI:AB os id=(k:Int):=by omega
 rw [hkk] at h hkb
 have hkl:k<os.length:=by omega
 have hrk:=hr k
 have ho:=hof _ (GK (l:=os) (i:=k) (by omega))
 obtain ⟨⟨r1,r2⟩,r3,r4⟩:=hrk
 rw [BE,hkI]
 refine AG (by omega) (BU ?_)
 simp only [AI,AM,AP,AR,AT,AD,AH,AL,AK,AO,AQ,AJ,AS,AN,BE,BJ,BH,BK,BI,BG,BF,A1,AZ,A5,A7,A6,A4]
 rcases hkd with rfl | rfl | rfl | rfl
 ·simp only [if_true] at h
  repeat' (first | refine BZ ?_ | refine PG ?_ | refine TQ ?_ | refine EF (by first | with_reducible assumption | omega) rfl ?_ | refine E9 (by first | with_reducible assumption | omega) rfl ?_ | refine B4 ?_ | refine BN ?_ | refine BT ?_ | refine C1 ⟨by omega,by omega⟩ ?_ | refine H0 (by omega) (by decide) rfl ?_ | refine AW (fun _=> ?_) (fun _=> ?_))
  ·rename_i h20
   rw [if_pos h20] at h
   exact B3 h
  ·rename_i h20
   rw [if_neg h20] at h
   exact stH hkl (O9 hid (by simpa using hol) h)
 ·simp only [if_neg (show ¬(3:Int)=2 by decide),if_neg (show ¬(3:Int)=5 by decide),if_true] at h
  repeat' (first | refine BZ ?_ | refine PG ?_ | refine E9 (by first | with_reducible assumption | omega) rfl ?_ | refine BN ?_ | refine BT ?_ | refine C1 ⟨by omega,by omega⟩ ?_ | refine H0 (by omega) (by decide) rfl ?_ | refine AW (fun _=> ?_) (fun _=> ?_))
  ·rename_i h20
   rw [if_pos h20] at h
   exact B3 h
  ·rename_i h20
   rw [if_neg h20] at h
   exact stH hkl (O3 (buf:=buf) (ids:=[id]) (by simpa using hol) (HA hof ⟨ho.gen,ho.len,ho.fld⟩) (by omega) (by simp) (by simpa using hid) h)
 ·simp only [if_neg (show ¬(5:Int)=2 by decide),if_true] at h
  repeat' (first | refine BZ ?_ | refine PG ?_ | refine TQ ?_ | refine EF (by first | with_reducible assumption | omega) rfl ?_ | refine E9 (by first | with_reducible assumption | omega) rfl ?_ | refine B4 ?_ | refine BT ?_ | refine C1 ⟨by omega,by omega⟩ ?_ | refine AG (by omega) ?_ | refine H0 (by omega) (by decide) rfl ?_ | refine AW (fun _=> ?_) (fun _=> ?_))
  ·rename_i h20
   rw [if_pos h20] at h
   exact B3 h
  ·rename_i h20
   rw [if_neg h20] at h
   exact stR hkl (O9 hid (by simpa using hol) h)
 ·simp only [if_neg (show ¬(6:Int)=2 by decide),if_neg (show ¬(6:Int)=5 by decide),if_neg (show ¬(6:Int)=3 by decide)] at h
  repeat' (first | refine BZ ?_ | refine PG ?_ | refine E9 (by first | with_reducible assumption | omega) rfl ?_ | refine B4 ?_ | refine BN ?_ | refine BT ?_ | refine C1 ⟨by omega,by omega⟩ ?_ | refine AG (by omega) ?_ | refine H0 (by omega) (by decide) rfl ?_ | refine AW (fun _=> ?_) (fun _=> ?_))
  ·rename_i h20
   rw [if_pos h20] at h
   exact B3 h
  ·rename_i h20
   rw [if_neg h20] at h
   exact stR hkl (O3 (buf:=buf) (ids:=[id]) (by simpa using hol) (HA hof ⟨ho.gen,ho.len,ho.fld⟩) (by omega) (by simp) (by simpa using hid) h)
theorem uQ {os:List AX} {k:Nat} {v:Int} {K:List T→Prop} (hk:k<os.length) (h:K (tR tO (os.set k {ob os k with holds:=v}))):stc (tR tO os) [] (AA (iv k)*8+3) (I v) K:=by
 rw [←DU hk] at h;exact YS hk h
theorem uT {os:List AX} {k:Nat} {v:Int} {K:List T→Prop} (hk:k<os.length) (h:K (tR tO (os.set k {ob os k with roots:=v}))):stc (tR tO os) [] (AA (iv k)*8+4) (I v) K:=by
 rw [←DU hk] at h;exact TK hk (by decide) rfl rfl h
theorem St.set {h:Hp} {os:List AX} (st:St h) (hl:os.length=h.BB.length) (ho: ∀o∈os,OF o):St {h with BB:=os}:=⟨by have:=st.ol;simp only;omega,st.wl,st.sl,st.bl,ho,st.ss,st.wf,st.bf⟩
theorem XS {h:Hp} {kind id b c:Int} {s:ByteArray} {K:J2} (st:St h) (hid:F64 id) (hkd:kind=2∨kind=3∨kind=5∨kind=6) (hr: ∀i,(0≤(ob h.BB i).holds∧(ob h.BB i).holds≤20)∧(0≤(ob h.BB i).roots∧(ob h.BB i).roots≤20)) (hK:K [I (H8 h.BB h.buffer kind id).2.2.code,I (H8 h.BB h.buffer kind id).2.2.val] [tR tO (H8 h.BB h.buffer kind id).1,tR tW h.B5,tI (H8 h.BB h.buffer kind id).2.1,tS h.sites,tI (H8 h.BB h.buffer kind id).2.2.freed]):cl2 ⟨Try.prog,w0⟩ 137 GR.sg [I kind,I id,I b,I c, .string s] (trees h) K:=by
 refine GR.cl2 ?_
 unfold GR.txt
 obtain ⟨os,ws,buf,ss⟩:=h
 have hol:os.length=8:=st.ol
 have hof: ∀o∈os,OF o:=st.of
 simp only at hr hK
 simp only [trees]
 simp only [AI,AM,AP,AR,AT,AD,AH,AL,AK,AO,AQ,AJ,AS,AN,BE,BJ,BH,BK,BI,BG,BF,A1,AZ,A5,A7,A6,A4]
 unfold H8 at hK
 refine CJ hid (by omega) (AV (AW (fun hs=> ?_) fun hs=> ?_))
 ·rw [if_pos hs] at hK
  exact hK
 rw [if_neg hs] at hK
 have hkb:=BL (l:=os) (id:=id) (by omega)
 obtain ⟨k,hkk⟩: ∃k,(AB os id).toNat=k:=⟨_,rfl⟩
 have hkI:AB os id=(k:Int):=by omega
 rw [hkk] at hK hkb
 have hkl:k<os.length:=by omega
 have hrk:=hr k
 have ho:=hof _ (GK (l:=os) (i:=k) (by omega))
 obtain ⟨⟨r1,r2⟩,r3,r4⟩:=hrk
 rw [BE,hkI]
 refine AG (by omega) (OZ hkl (BU (BU ?_)))
 simp only [mQ,oO,rP,rN,qW,lV,rO]
 have gn: ∀{os':List AX} {K:J2},os'.length=os.length→(∀o∈os',OF o)→K [] [tR tO (DF os' id),tR tW ws,tI buf,tS ss]→cl2 ⟨Try.prog,w0⟩ 192 FL.sg [I id] [tR tO os',tR tW ws,tI buf,tS ss] K:=fun hl ho hk=>TN (St.set st hl ho) hid hk
 have ls: ∀{os':List AX} {K:J2},os'.length=os.length→(∀o∈os',OF o)→K [] [tR tO (G6 os' buf [id]).1,tR tW ws,tI (G6 os' buf [id]).2.1,tS ss,tI (G6 os' buf [id]).2.2]→cl2 ⟨Try.prog,w0⟩ 193 GB.sg [] [tR tO os',tR tW ws,tI buf,tS ss,tI [id]] K:=fun hl ho hk=>TX (St.set st hl ho) (by simp) (by simpa using hid) hk
 rcases hkd with rfl | rfl | rfl | rfl
 ·simp only [if_true] at hK
  by_cases h20:(ob os k).holds=20
  ·rw [if_pos h20] at hK
   repeat' (first | refine BZ ?_ | refine OL ?_ | refine EF (by first | with_reducible assumption | omega) rfl ?_ | refine DN (by first | with_reducible assumption | omega) ?_ | refine HY ?_ | refine BT ?_ | simp only [AI,AM,AP,AR,AT,AD,AH,AL,AK,AO,AQ,AJ,AS,AN,BE,BJ,BH,BK,BI,BG,BF,A1,AZ,A5,A7,A6,A4])
   exact hK
  ·rw [if_neg h20] at hK
   repeat' (first | refine BU ?_ | refine BZ ?_ | refine OL ?_ | refine OM ?_ | refine EF (by first | with_reducible assumption | omega) rfl ?_ | refine E9 (by first | with_reducible assumption | omega) rfl ?_ | refine B4 ?_ | refine BN ?_ | refine B2 (by first | with_reducible assumption | omega) ?_ | refine HY ?_ | refine BT ?_ | refine C1 ⟨by omega,by omega⟩ ?_ | refine AG (by omega) ?_ | simp only [AI,AM,AP,AR,AT,AD,AH,AL,AK,AO,AQ,AJ,AS,AN,BE,BJ,BH,BK,BI,BG,BF,A1,AZ,A5,A7,A6,A4])
   exact uQ hkl (gn (by simp) (HA hof ⟨ho.gen,ho.len,ho.fld⟩) hK)
 ·simp only [if_neg (show ¬(3:Int)=2 by decide),if_neg (show ¬(3:Int)=5 by decide),if_true] at hK
  by_cases h20:(ob os k).holds=0
  ·rw [if_pos h20] at hK
   repeat' (first | refine BU ?_ | refine BZ ?_ | refine OL ?_ | refine OM ?_ | refine EF (by first | with_reducible assumption | omega) rfl ?_ | refine E9 (by first | with_reducible assumption | omega) rfl ?_ | refine BN ?_ | refine DN (by first | with_reducible assumption | omega) ?_ | refine AV ?_ | refine BT ?_ | simp only [AI,AM,AP,AR,AT,AD,AH,AL,AK,AO,AQ,AJ,AS,AN,BE,BJ,BH,BK,BI,BG,BF,A1,AZ,A5,A7,A6,A4])
   exact hK
  ·rw [if_neg h20] at hK
   repeat' (first | refine BU ?_ | refine BZ ?_ | refine OL ?_ | refine OM ?_ | refine EF (by first | with_reducible assumption | omega) rfl ?_ | refine E9 (by first | with_reducible assumption | omega) rfl ?_ | refine B4 ?_ | refine BN ?_ | refine B2 (by first | with_reducible assumption | omega) ?_ | refine AV ?_ | refine BT ?_ | refine C1 ⟨by omega,by omega⟩ ?_ | refine AG (by omega) ?_ | simp only [AI,AM,AP,AR,AT,AD,AH,AL,AK,AO,AQ,AJ,AS,AN,BE,BJ,BH,BK,BI,BG,BF,A1,AZ,A5,A7,A6,A4])
   exact uQ hkl (ls (by simp) (HA hof ⟨ho.gen,ho.len,ho.fld⟩) hK)
 ·simp only [if_neg (show ¬(5:Int)=2 by decide),if_true] at hK
  by_cases h20:(ob os k).roots=20
  ·rw [if_pos h20] at hK
   repeat' (first | refine BZ ?_ | refine OL ?_ | refine OM ?_ | refine EF (by first | with_reducible assumption | omega) rfl ?_ | refine E9 (by first | with_reducible assumption | omega) rfl ?_ | refine BN ?_ | refine DN (by first | with_reducible assumption | omega) ?_ | refine HY ?_ | refine BT ?_ | simp only [AI,AM,AP,AR,AT,AD,AH,AL,AK,AO,AQ,AJ,AS,AN,BE,BJ,BH,BK,BI,BG,BF,A1,AZ,A5,A7,A6,A4])
   exact hK
  ·rw [if_neg h20] at hK
   repeat' (first | refine BU ?_ | refine BZ ?_ | refine OL ?_ | refine OM ?_ | refine EF (by first | with_reducible assumption | omega) rfl ?_ | refine E9 (by first | with_reducible assumption | omega) rfl ?_ | refine B4 ?_ | refine BN ?_ | refine B2 (by first | with_reducible assumption | omega) ?_ | refine HY ?_ | refine BT ?_ | refine C1 ⟨by omega,by omega⟩ ?_ | refine AG (by omega) ?_ | simp only [AI,AM,AP,AR,AT,AD,AH,AL,AK,AO,AQ,AJ,AS,AN,BE,BJ,BH,BK,BI,BG,BF,A1,AZ,A5,A7,A6,A4])
   exact uT hkl (gn (by simp) (HA hof ⟨ho.gen,ho.len,ho.fld⟩) hK)
 ·simp only [if_neg (show ¬(6:Int)=2 by decide),if_neg (show ¬(6:Int)=5 by decide),if_neg (show ¬(6:Int)=3 by decide)] at hK
  by_cases h20:(ob os k).roots=0
  ·rw [if_pos h20] at hK
   repeat' (first | refine BU ?_ | refine BZ ?_ | refine OL ?_ | refine OM ?_ | refine EF (by first | with_reducible assumption | omega) rfl ?_ | refine E9 (by first | with_reducible assumption | omega) rfl ?_ | refine BN ?_ | refine DN (by first | with_reducible assumption | omega) ?_ | refine AV ?_ | refine BT ?_ | simp only [AI,AM,AP,AR,AT,AD,AH,AL,AK,AO,AQ,AJ,AS,AN,BE,BJ,BH,BK,BI,BG,BF,A1,AZ,A5,A7,A6,A4])
   exact hK
  ·rw [if_neg h20] at hK
   repeat' (first | refine BU ?_ | refine BZ ?_ | refine OL ?_ | refine OM ?_ | refine EF (by first | with_reducible assumption | omega) rfl ?_ | refine E9 (by first | with_reducible assumption | omega) rfl ?_ | refine BN ?_ | refine B2 (by first | with_reducible assumption | omega) ?_ | refine AV ?_ | refine BT ?_ | refine C1 ⟨by omega,by omega⟩ ?_ | refine AG (by omega) ?_ | simp only [AI,AM,AP,AR,AT,AD,AH,AL,AK,AO,AQ,AJ,AS,AN,BE,BJ,BH,BK,BI,BG,BF,A1,AZ,A5,A7,A6,A4])
   exact uT hkl (ls (by simp) (HA hof ⟨ho.gen,ho.len,ho.fld⟩) hK)
end Go.Proofs.Ytnhicpkhkaihoaa.P
namespace Go.Proofs.Ytnhicpkhkaihoaa.P
open Go Go.Proofs.Ytnhicpkhkaihoaa Go.Proofs.Ytnhicpkhkaihoaa.Eng
set_option linter.unusedVariables false
set_option maxHeartbeats 4000000
set_option linter.unusedVariables false
set_option linter.unusedSimpArgs false
attribute [local irreducible] prP gP gE gF AU ixW ldc ldg ldl stc stg scW mkW apW BD cl2 BW FR DK
variable {w0:World}
def GG (os:List AX) (buf:List Int) (a b c:Int):List AX×List Int×An:=
 if AB os a<0∨(c≠ -1∧AB os c<0) then (os,buf,⟨1,0,[]⟩) else
 if ¬(0≤b∧b≤2) then (os,buf,⟨2,0,[]⟩) else
 if gI (ob os (AB os a).toNat).field b.toNat= -1 then
  ((DF os c).set (AB os a).toNat {ob (DF os c) (AB os a).toNat with field:=(ob os (AB os a).toNat).field.set b.toNat c},buf,⟨0,0,[]⟩)
 else oV (G6 ((DF os c).set (AB os a).toNat {ob (DF os c) (AB os a).toNat with field:=(ob os (AB os a).toNat).field.set b.toNat c}) buf [gI (ob os (AB os a).toNat).field b.toNat])
theorem IL {l:List AX} {i k:Nat} {o:AX} (hk:k<l.length):ob (l.set k o) i=if i=k then o else ob l i:=by
 unfold ob
 by_cases h:i=k
 ·subst h
  rw [if_pos rfl,List.getD_eq_getElem?_getD,List.getElem?_set_self hk];rfl
 ·rw [if_neg h,List.getD_eq_getElem?_getD,List.getElem?_set_ne (Ne.symm h),List.getD_eq_getElem?_getD]
theorem WM {os:List AX} {id:Int} {i:Nat}:(ob (DF os id) i).live=(ob os i).live∧(ob (DF os id) i).gen=(ob os i).gen∧(ob (DF os id) i).site=(ob os i).site∧(ob (DF os id) i).holds=(ob os i).holds∧(ob (DF os id) i).roots=(ob os i).roots∧(ob (DF os id) i).field=(ob os i).field∧(ob (DF os id) i).purple=(ob os i).purple:=by
 unfold DF
 split
 ·exact ⟨rfl,rfl,rfl,rfl,rfl,rfl,rfl⟩
 ·have hk:=BL (l:=os) (id:=id) (by omega)
  rw [IL (by omega)]
  split
  ·rename_i h;subst h;exact ⟨rfl,rfl,rfl,rfl,rfl,rfl,rfl⟩
  ·exact ⟨rfl,rfl,rfl,rfl,rfl,rfl,rfl⟩
theorem stF {os:List AX} {k j:Nat} {v:Int} {K:List T→Prop} (hk:k<os.length) (hj:j<(ob os k).field.length) (h:K (tR tO (os.set k {ob os k with field:=(ob os k).field.set j v}))):stc (tR tO os) [AA (iv k)*8+6] (AA (iv j)*1) (I v) K:=by
 rw [←DU hk] at h hj;exact lA hk hj h
theorem OF.put {o:AX} {m:List Int} (h:OF o) (hl:m.length=3) (hf: ∀x∈m,F64 x):OF {o with field:=m}:=⟨h.gen,hl,hf⟩
theorem bK {os:List AX} {buf:List Int} {b d:List T} {a0 a1 a2 a3:Int} {s:ByteArray} {K:J2} (hol:os.length=8) (hof: ∀o∈os,OF o) (hb:buf.length≤100) (h1:F64 a1) (h3:F64 a3) (h:K [I (GG os buf a1 a2 a3).2.2.code,I (GG os buf a1 a2 a3).2.2.val] [tI (GG os buf a1 a2 a3).2.2.freed,tR tO (GG os buf a1 a2 a3).1,tI (GG os buf a1 a2 a3).2.1]):cl2 ⟨Try.prog,w0⟩ 185 DQ.sg [I a0,I a1,I a2,I a3, .string s] [tR tO os,b,tI buf,d] K:=by
 refine DQ.cl2 ?_
 unfold DQ.txt
 unfold GG at h
 refine DA h1 (by omega) ?_
 by_cases hs:AB os a1<0
 ·rw [if_pos (.inl hs)] at h
  repeat' (first | exact B3 h | refine BZ ?_ | refine rJ ?_ | refine aK (by first | with_reducible assumption | omega) ?_ | refine OS (by first | with_reducible assumption | omega) ?_ | refine EF (by first | with_reducible assumption | omega) rfl ?_ | refine B4 ?_ | refine AV ?_)
 have hkb:=BL (l:=os) (id:=a1) (by omega)
 by_cases hc:a3≠ -1∧AB os a3<0
 ·obtain ⟨hc1,hc2⟩:=hc
  rw [if_pos (.inr ⟨hc1,hc2⟩)] at h
  repeat' (first | refine DA h3 (by omega) ?_ | exact B3 h | refine BZ ?_ | refine TT ?_ | refine S1 (by first | with_reducible assumption | omega) ?_ | refine I5 (by first | with_reducible assumption | omega) ?_ | refine JB (by first | with_reducible assumption | omega) ?_ | refine EF (by first | with_reducible assumption | omega) rfl ?_ | refine E9 (by first | with_reducible assumption | omega) rfl ?_ | refine DN (by first | with_reducible assumption | omega) ?_ | refine AV ?_ | refine B6 ?_)
 rw [if_neg (by omega)] at h
 by_cases hb2: ¬(0≤a2∧a2≤2)
 ·rw [if_pos hb2] at h
  repeat' (first | refine DA h3 (by omega) ?_ | refine I6 ?_ | exact B3 h | refine BZ ?_ | refine TT ?_ | refine S1 (by first | with_reducible assumption | omega) ?_ | refine I5 (by first | with_reducible assumption | omega) ?_ | refine OO (by first | with_reducible assumption | omega) ?_ | refine JB (by first | with_reducible assumption | omega) ?_ | refine EF (by first | with_reducible assumption | omega) rfl ?_ | refine E9 (by first | with_reducible assumption | omega) rfl ?_ | refine BN ?_ | refine DN (by first | with_reducible assumption | omega) ?_ | refine B2 (by first | with_reducible assumption | omega) ?_ | refine AV ?_ | refine B6 ?_ | refine DE ?_ | refine LY (fun _=> ?_) (fun _=> ?_))
 rw [if_neg hb2] at h
 obtain ⟨k,hkk⟩: ∃k,(AB os a1).toNat=k:=⟨_,rfl⟩
 have hkI:AB os a1=(k:Int):=by omega
 rw [hkk] at h hkb
 obtain ⟨j,rfl⟩: ∃j:Nat,a2=j:=⟨a2.toNat,by omega⟩
 rw [Int.toNat_natCast] at h
 have hkl:k<os.length:=by omega
 have ho:=hof _ (GK (l:=os) (i:=k) (by omega))
 obtain ⟨_,_,_,_,_,gf,_⟩:=WM (os:=os) (id:=a3) (i:=k)
 have gl:=NH os a3
 have gof:=SJ (id:=a3) hof
 have jl:j<(ob os k).field.length:=by rw [ho.len];omega
 rw [hkI]
 repeat' (first | refine DA h3 (by omega) ?_ | refine I6 ?_ | refine O9 h3 hol ?_ | refine BZ ?_ | refine TT ?_ | refine fN ?_ | refine PG ?_ | refine I5 (by first | with_reducible assumption | omega) ?_ | refine OO (by first | with_reducible assumption | omega) ?_ | refine EF (by first | with_reducible assumption | omega) rfl ?_ | refine E9 (by first | with_reducible assumption | omega) rfl ?_ | refine BN ?_ | refine B2 (by first | with_reducible assumption | omega) ?_ | refine AV ?_ | refine B6 ?_ | refine DE ?_ | refine AG (by omega) ?_ | refine ZW (by omega) ?_ | refine LY (fun _=> ?_) (fun _=> ?_) | simp only [AI,AM,AP,AR,AT,AD,AH,AL,AK,AO,AQ,AJ,AS,AN,BE,BJ,BH,BK,BI,BG,BF,A1,AZ,A5,A7,A6,A4])
 all_goals
  refine AG (by rw [HU (by omega),AD,gf];exact jl) (NB (by omega) (by rw [gf];exact jl) (AG (by omega) ?_))
  rw [gf]
  refine M8 (f:=tO) (i:=k) (by omega) (by decide) rfl ?_
  refine AG (by rw [HU (by omega),AD,gf];exact jl) (stF (by omega) (by rw [gf];exact jl) ?_)
  rw [gf]
  refine BT (AW (fun he=> ?_) fun he=> ?_)
  ·rw [if_pos he] at h;exact h
  ·rw [if_neg he] at h
   exact O3 (buf:=buf) (ids:=[gI (ob os k).field j]) (by simpa using gl.trans hol) (HA gof (OF.put (gof _ (GK (by omega))) (by rw [List.length_set];exact ho.len) fun x hx=>(List.mem_or_eq_of_mem_set hx).elim (ho.fld x) fun he=>he ▸ h3)) (by omega) (by simp) (by simpa using ho.fld _ (EG jl)) h
theorem WD {h:Hp} {a0 a1 a2 a3:Int} {s:ByteArray} {K:J2} (st:St h) (h1:F64 a1) (h3:F64 a3) (hfd: ∀i, ∀f∈(ob h.BB i).field,f= -1∨0≤f) (hK:K [I (GG h.BB h.buffer a1 a2 a3).2.2.code,I (GG h.BB h.buffer a1 a2 a3).2.2.val] [tR tO (GG h.BB h.buffer a1 a2 a3).1,tR tW h.B5,tI (GG h.BB h.buffer a1 a2 a3).2.1,tS h.sites,tI (GG h.BB h.buffer a1 a2 a3).2.2.freed]):cl2 ⟨Try.prog,w0⟩ 138 F5.sg [I a0,I a1,I a2,I a3, .string s] (trees h) K:=by
 refine F5.cl2 ?_
 unfold F5.txt
 obtain ⟨os,ws,buf,ss⟩:=h
 have hol:os.length=8:=st.ol
 have hof: ∀o∈os,OF o:=st.of
 simp only at hK hfd
 simp only [trees]
 unfold GG at hK
 have gn: ∀{K:J2},K [] [tR tO (DF os a3),tR tW ws,tI buf,tS ss]→cl2 ⟨Try.prog,w0⟩ 192 FL.sg [I a3] [tR tO os,tR tW ws,tI buf,tS ss] K:=fun hk=>TN st h3 hk
 have ls: ∀{os':List AX} {x:Int} {K:J2},os'.length=os.length→(∀o∈os',OF o)→F64 x→K [] [tR tO (G6 os' buf [x]).1,tR tW ws,tI (G6 os' buf [x]).2.1,tS ss,tI (G6 os' buf [x]).2.2]→cl2 ⟨Try.prog,w0⟩ 193 GB.sg [] [tR tO os',tR tW ws,tI buf,tS ss,tI [x]] K:=fun hl ho hx hk=>TX (St.set st hl ho) (by simp) (by simpa using hx) hk
 refine CJ h1 (by omega) ?_
 by_cases hs:AB os a1<0
 ·rw [if_pos (.inl hs)] at hK
  repeat' (first | exact hK | refine BZ ?_ | refine rJ ?_ | refine aK (by first | with_reducible assumption | omega) ?_ | refine OS (by first | with_reducible assumption | omega) ?_ | refine EF (by first | with_reducible assumption | omega) rfl ?_ | refine B4 ?_ | refine AV ?_)
 have hkb:=BL (l:=os) (id:=a1) (by omega)
 by_cases hc:a3≠ -1∧AB os a3<0
 ·obtain ⟨hc1,hc2⟩:=hc
  rw [if_pos (.inr ⟨hc1,hc2⟩)] at hK
  repeat' (first | refine CJ h3 (by omega) ?_ | exact hK | refine BZ ?_ | refine TT ?_ | refine S1 (by first | with_reducible assumption | omega) ?_ | refine I5 (by first | with_reducible assumption | omega) ?_ | refine JB (by first | with_reducible assumption | omega) ?_ | refine EF (by first | with_reducible assumption | omega) rfl ?_ | refine E9 (by first | with_reducible assumption | omega) rfl ?_ | refine DN (by first | with_reducible assumption | omega) ?_ | refine AV ?_ | refine B6 ?_)
 rw [if_neg (by omega)] at hK
 by_cases hb2: ¬(0≤a2∧a2≤2)
 ·rw [if_pos hb2] at hK
  repeat' (first | refine CJ h3 (by omega) ?_ | refine DW ?_ | exact hK | refine BZ ?_ | refine TT ?_ | refine S1 (by first | with_reducible assumption | omega) ?_ | refine I5 (by first | with_reducible assumption | omega) ?_ | refine OO (by first | with_reducible assumption | omega) ?_ | refine JB (by first | with_reducible assumption | omega) ?_ | refine EF (by first | with_reducible assumption | omega) rfl ?_ | refine E9 (by first | with_reducible assumption | omega) rfl ?_ | refine BN ?_ | refine DN (by first | with_reducible assumption | omega) ?_ | refine B2 (by first | with_reducible assumption | omega) ?_ | refine AV ?_ | refine B6 ?_ | refine DE ?_ | refine LY (fun _=> ?_) (fun _=> ?_))
 rw [if_neg hb2] at hK
 obtain ⟨k,hkk⟩: ∃k,(AB os a1).toNat=k:=⟨_,rfl⟩
 have hkI:AB os a1=(k:Int):=by omega
 rw [hkk] at hK hkb
 obtain ⟨j,rfl⟩: ∃j:Nat,a2=j:=⟨a2.toNat,by omega⟩
 rw [Int.toNat_natCast] at hK
 have hkl:k<os.length:=by omega
 have ho:=hof _ (GK (l:=os) (i:=k) (by omega))
 obtain ⟨_,_,_,_,_,gf,_⟩:=WM (os:=os) (id:=a3) (i:=k)
 have gl:=NH os a3
 have gof:=SJ (id:=a3) hof
 have jl:j<(ob os k).field.length:=by rw [ho.len];omega
 have hold:=hfd k _ (EG jl)
 rw [hkI]
 repeat' (first | refine CJ h3 (by omega) ?_ | refine DW ?_ | refine BZ ?_ | refine TT ?_ | refine fN ?_ | refine PG ?_ | refine I5 (by first | with_reducible assumption | omega) ?_ | refine OO (by first | with_reducible assumption | omega) ?_ | refine EF (by first | with_reducible assumption | omega) rfl ?_ | refine E9 (by first | with_reducible assumption | omega) rfl ?_ | refine BN ?_ | refine B2 (by first | with_reducible assumption | omega) ?_ | refine AV ?_ | refine B6 ?_ | refine DE ?_ | refine AG (by omega) ?_ | refine ZW (by omega) ?_ | refine LY (fun _=> ?_) (fun _=> ?_) | simp only [AI,AM,AP,AR,AT,AD,AH,AL,AK,AO,AQ,AJ,AS,AN,BE,BJ,BH,BK,BI,BG,BF,A1,AZ,A5,A7,A6,A4])
 all_goals
  refine AG (by rw [HU (by omega),AD];exact jl) (NB (by omega) jl (BU ?_))
  simp only [AI,AM,AP,AR,AT,AD,AH,AL,AK,AO,AQ,AJ,AS,AN,BE,BJ,BH,BK,BI,BG,BF,A1,AZ,A5,A7,A6,A4]
  refine MJ (AW (fun hge=>gn ?_) fun hlt=> ?_)
  ·simp only [AI,AM,AP,AR,AT,AD,AH,AL,AK,AO,AQ,AJ,AS,AN,BE,BJ,BH,BK,BI,BG,BF,A1,AZ,A5,A7,A6,A4]
   refine AG (by omega) (M8 (f:=tO) (i:=k) (by omega) (by decide) rfl ?_)
   refine AG (by rw [HU (by omega),AD,gf];exact jl) (stF (by omega) (by rw [gf];exact jl) ?_)
   rw [gf]
   refine AV (AW (fun he=> ?_) fun he=> ?_)
   ·rw [if_pos (by omega)] at hK;exact hK
   ·rw [if_neg (by omega)] at hK
    exact ls (by simpa using gl) (HA gof (OF.put (gof _ (GK (by omega))) (by rw [List.length_set];exact ho.len) fun x hx=>(List.mem_or_eq_of_mem_set hx).elim (ho.fld x) fun he=>he ▸ h3)) (ho.fld _ (EG jl)) hK
  ·have e0:DF os a3=os:=by unfold DF;rw [if_pos];rw [NL (by omega)];decide
   rw [e0] at hK
   refine AG (by omega) (M8 (f:=tO) (i:=k) (by omega) (by decide) rfl ?_)
   refine AG (by rw [HU (by omega),AD];exact jl) (stF (by omega) jl ?_)
   refine AV (AW (fun he=> ?_) fun he=> ?_)
   ·rw [if_pos (by omega)] at hK;exact hK
   ·rw [if_neg (by omega)] at hK
    exact ls (by simp) (HA hof (OF.put ho (by rw [List.length_set];exact ho.len) fun x hx=>(List.mem_or_eq_of_mem_set hx).elim (ho.fld x) fun he=>he ▸ h3)) (ho.fld _ (EG jl)) hK
def KV (os:List AX) (ws:List Wk) (id:Int):List Wk×An:=
 if AB os id<0 then (ws,⟨1,0,[]⟩) else if IQ ws<0 then (ws,⟨3,0,[]⟩) else (ws.set (IQ ws).toNat ⟨true,id⟩,⟨0,IQ ws,[]⟩)
def G8 (os:List AX) (ws:List Wk) (kind k:Int):List Wk×An:=
 if ¬(0≤k∧k≤(ws.length:Int)-1) then (ws,⟨2,0,[]⟩) else
 if (wk ws k.toNat).used=false then (ws,⟨2,0,[]⟩) else
 if kind=9 then (ws.set k.toNat ⟨false,0⟩,⟨0,0,[]⟩) else
 if AB os (wk ws k.toNat).target<0 then (ws,⟨0, -1,[]⟩) else (ws,⟨0,(wk ws k.toNat).target,[]⟩)
theorem ZF {ws:List Wk} (h: ¬IQ ws<0):(IQ ws).toNat<ws.length∧IQ ws=((IQ ws).toNat:Int)∧(wk ws (IQ ws).toNat).used=false:=by
 rcases RN ws.length (fun i=> !(wk ws i).used) with ⟨h1,_⟩ | ⟨i,h1,h2,h3,_⟩
 ·unfold IQ at h;omega
 ·have e:IQ ws=i:=h2
  have e2:(IQ ws).toNat=i:=by omega
  rw [e2];exact ⟨h1,e,by simpa using h3⟩
theorem cG {os:List AX} {ws:List Wk} {c d:List T} {id:Int} {K:J2} (hol:os.length=8) (hwl:ws.length=8) (hid:F64 id) (h:K [I (KV os ws id).2.code,I (KV os ws id).2.val] [tI (KV os ws id).2.freed,tR tW (KV os ws id).1]):cl2 ⟨Try.prog,w0⟩ 186 EA.sg [I id] [tR tO os,tR tW ws,c,d] K:=by
 refine EA.cl2 ?_
 unfold EA.txt
 unfold KV at h
 simp only [AI,AM,AP,AR,AT,AD,AH,AL,AK,AO,AQ,AJ,AS,AN,BE,BJ,BH,BK,BI,BG,BF,A1,AZ,A5,A7,A6,A4]
 refine T7 hwl (DA hid (by omega) (AV (AW (fun hs=> ?_) fun hs=> ?_)))
 ·rw [if_pos hs] at h;exact B3 h
 rw [if_neg hs] at h
 refine AV (AW (fun hf=> ?_) fun hf=> ?_)
 ·rw [if_pos hf] at h;exact B3 h
 rw [if_neg hf] at h
 obtain ⟨f1,f2,f3⟩:=ZF hf
 simp only [AI,AM,AP,AR,AT,AD,AH,AL,AK,AO,AQ,AJ,AS,AN,BE,BJ,BH,BK,BI,BG,BF,A1,AZ,A5,A7,A6,A4]
 rw [f2] at h ⊢
 rw [Int.toNat_natCast] at h
 exact AG f1 (KQ (f:=tW) f1 (y:=⟨true,id⟩) rfl h)
theorem X2 {os:List AX} {ws:List Wk} {c d:List T} {kind k:Int} {K:J2} (hol:os.length=8) (hwl:ws.length=8) (hk:F64 k) (hwf: ∀w∈ws,F64 w.target) (h:K [I (G8 os ws kind k).2.code,I (G8 os ws kind k).2.val] [tI (G8 os ws kind k).2.freed,tR tW (G8 os ws kind k).1]):cl2 ⟨Try.prog,w0⟩ 187 DD.sg [I kind,I k] [tR tO os,tR tW ws,c,d] K:=by
 refine DD.cl2 ?_
 unfold DD.txt
 unfold G8 at h
 simp only [AI,AM,AP,AR,AT,AD,AH,AL,AK,AO,AQ,AJ,AS,AN,BE,BJ,BH,BK,BI,BG,BF,A1,AZ,A5,A7,A6,A4]
 refine IW ⟨by omega,by omega⟩ (I6 (DE ?_))
 by_cases hb: ¬(0≤k∧k≤(ws.length:Int)-1)
 ·rw [if_pos hb] at h
  repeat' (first | exact B3 h | refine BZ ?_ | refine OS (by first | with_reducible assumption | omega) ?_ | refine EF (by first | with_reducible assumption | omega) rfl ?_ | refine B4 ?_)
 rw [if_neg hb] at h
 obtain ⟨j,rfl⟩: ∃j:Nat,k=j:=⟨k.toNat,by omega⟩
 rw [Int.toNat_natCast] at h
 have jl:j<ws.length:=by omega
 have hw:=hwf _ (List.getElem_mem jl)
 rw [ZD jl] at hw
 cases hu:(wk ws j).used with
 | false=>
   rw [if_pos hu] at h
   repeat' (first | refine P9 (v:= .bool false) jl (by simp [tW,hu]) ?_ | exact B3 h | refine BZ ?_ | refine JB (by first | with_reducible assumption | omega) ?_ | refine E9 (by first | with_reducible assumption | omega) rfl ?_ | refine B4 ?_ | refine AG (by omega) ?_ | refine BY ?_)
 | true=>
   rw [if_neg (by rw [hu];decide)] at h
   repeat' (first | refine P9 (v:= .bool true) jl (by simp [tW,hu]) ?_ | refine DA hw (by omega) ?_ | refine BZ ?_ | refine JB (by first | with_reducible assumption | omega) ?_ | refine E9 (by first | with_reducible assumption | omega) rfl ?_ | refine BN ?_ | refine AV ?_ | refine BT ?_ | refine AG (by omega) ?_ | refine nA (by omega) (by decide) rfl ?_ | refine AW (fun _=> ?_) (fun _=> ?_) | refine BY ?_)
   ·rename_i hh
    rw [if_pos hh] at h
    exact KQ (f:=tW) jl (y:=⟨false,0⟩) rfl h
   ·rename_i hh hs
    rw [if_neg hh,if_pos hs] at h
    exact h
   ·rename_i hh hs
    rw [if_neg hh,if_neg hs] at h
    exact h
theorem X0 {os:List AX} {ws:List Wk} {cc d:List T} {kind k b c:Int} {s:ByteArray} {K:J2} (hol:os.length=8) (hwl:ws.length=8) (hk:F64 k) (hwf: ∀w∈ws,F64 w.target) (h7:kind=7→K [I (KV os ws k).2.code,I (KV os ws k).2.val] [tR tW (KV os ws k).1,tI (KV os ws k).2.freed]) (h:kind≠7→K [I (G8 os ws kind k).2.code,I (G8 os ws kind k).2.val] [tR tW (G8 os ws kind k).1,tI (G8 os ws kind k).2.freed]):cl2 ⟨Try.prog,w0⟩ 139 GY.sg [I kind,I k,I b,I c, .string s] [tR tO os,tR tW ws,cc,d] K:=by
 refine GY.cl2 ?_
 unfold GY.txt
 simp only [AI,AM,AP,AR,AT,AD,AH,AL,AK,AO,AQ,AJ,AS,AN,BE,BJ,BH,BK,BI,BG,BF,A1,AZ,A5,A7,A6,A4]
 refine BT (AW (fun he=> ?_) fun he=> ?_)
 ·replace h:=h7 he
  clear h7
  unfold KV at h
  refine CJ hk (by omega) (AV (AW (fun hs=> ?_) fun hs=> ?_))
  ·rw [if_pos hs] at h;exact h
  rw [if_neg hs] at h
  refine BA (fun i=>[iv i,I kind,I k,I b,I c, .string s,I 0,I 0]) (fun _=>[tR tW ws]) ws.length (fun i=> ∀j,j<i→(!(wk ws j).used)=false) rfl rfl (fun k hk=>by omega) (fun R i hi hP hR=> ?_)
  simp only [AI,AM,AP,AR,AT,AD,AH,AL,AK,AO,AQ,AJ,AS,AN,BE,BJ,BH,BK,BI,BG,BF,A1,AZ,A5,A7,A6,A4]
  refine AV (AW (fun hlt=> ?_) fun hge=> ?_)
  ·have hlt:i<ws.length:=by omega
   cases hv:(wk ws i).used with
   | false=>
     refine AG hlt (P9 (v:= .bool false) hlt (by simp [tW,hv]) (BY (B4 (AG hlt ?_))))
     unfold IQ at h
     rw [MO hlt (by rw [hv];rfl) hP,if_neg (by omega),Int.toNat_natCast] at h
     exact KQ (f:=tW) hlt (y:=⟨true,k⟩) rfl h
   | true=>
     refine AG hlt (P9 (v:= .bool true) hlt (by simp [tW,hv]) (BY (BN (A8 (by omega) (hR hlt fun k hk=> ?_)))))
     rcases Nat.lt_succ_iff_lt_or_eq.1 hk with h3 | rfl
     ·exact hP k h3
     ·rw [hv];rfl
  ·have:i=ws.length:=by omega
   subst this
   unfold IQ at h
   rw [PU hP,if_pos (by decide)] at h;exact h
 ·replace h:=h he
  clear h7
  unfold G8 at h
  refine IW ⟨by omega,by omega⟩ (DW (DE ?_))
  by_cases hb: ¬(0≤k∧k≤(ws.length:Int)-1)
  ·rw [if_pos hb] at h
   repeat' (first | exact h | refine BZ ?_ | refine OS (by first | with_reducible assumption | omega) ?_ | refine EF (by first | with_reducible assumption | omega) rfl ?_ | refine B4 ?_)
  rw [if_neg hb] at h
  obtain ⟨j,rfl⟩: ∃j:Nat,k=j:=⟨k.toNat,by omega⟩
  rw [Int.toNat_natCast] at h
  have jl:j<ws.length:=by omega
  have hw:=hwf _ (List.getElem_mem jl)
  rw [ZD jl] at hw
  cases hu:(wk ws j).used with
  | false=>
    rw [if_pos hu] at h
    repeat' (first | refine P9 (v:= .bool false) jl (by simp [tW,hu]) ?_ | exact h | refine BZ ?_ | refine JB (by first | with_reducible assumption | omega) ?_ | refine E9 (by first | with_reducible assumption | omega) rfl ?_ | refine B4 ?_ | refine AG (by omega) ?_ | refine BY ?_)
  | true=>
    rw [if_neg (by rw [hu];decide)] at h
    repeat' (first | refine P9 (v:= .bool true) jl (by simp [tW,hu]) ?_ | refine CJ hw (by omega) ?_ | refine BZ ?_ | refine JB (by first | with_reducible assumption | omega) ?_ | refine E9 (by first | with_reducible assumption | omega) rfl ?_ | refine BN ?_ | refine AV ?_ | refine BT ?_ | refine AG (by omega) ?_ | refine nA (by omega) (by decide) rfl ?_ | refine AW (fun _=> ?_) (fun _=> ?_) | refine BY ?_)
    ·rename_i hh
     rw [if_pos hh] at h
     exact KQ (f:=tW) jl (y:=⟨false,0⟩) rfl h
    ·rename_i hh hs
     rw [if_neg hh,if_pos hs] at h
     exact h
    ·rename_i hh hs
     rw [if_neg hh,if_neg hs] at h
     exact h
end Go.Proofs.Ytnhicpkhkaihoaa.P
