/- A part of the proof. -/
import Derived.Test.YtklmcfpgdfibnaaClHpI
namespace Go.Proofs.Ytklmcfpgdfibnaa.P
open Go Go.Proofs.Ytklmcfpgdfibnaa Go.Proofs.Ytklmcfpgdfibnaa.Eng
set_option linter.unusedVariables false
set_option maxHeartbeats 4000000
set_option linter.unusedVariables false
set_option linter.unusedSimpArgs false
attribute [local irreducible] prP gP gE gF A7 ixW ldc ldg ldl stc stg scW mkW apW BD cl2 BP DT C0
variable {w0:World}
def MW (n:Nat) (p:Nat→Bool):Int:=match (List.range n).find? p with
 | some i=>(i:Int)
 | none=> -1
theorem UE {n i:Nat} {p:Nat→Bool} (hi:i<n) (h:p i=true) (hb: ∀k,k<i→p k=false):MW n p=i:=by
 have:(List.range n).find? p=some i:=List.find?_range_eq_some.2 ⟨h,List.mem_range.2 hi,fun j hj=>by rw [hb j hj];rfl⟩
 rw [MW,this]
theorem YG {n:Nat} {p:Nat→Bool} (hb: ∀k,k<n→p k=false):MW n p= -1:=by
 have:(List.range n).find? p=none:=List.find?_range_eq_none.2 fun j hj=>by rw [hb j hj];rfl
 rw [MW,this]
theorem S1 (n:Nat) (p:Nat→Bool):(MW n p= -1∧ ∀k,k<n→p k=false)∨ ∃i,i<n∧MW n p=(i:Int)∧p i=true∧ ∀k,k<i→p k=false:=by
 cases h:(List.range n).find? p with
 | none=>exact .inl ⟨by rw [MW,h],fun k hk=>by have:=List.find?_range_eq_none.1 h k hk;simpa using this⟩
 | some i=>
   obtain ⟨h1,h2,h3⟩:=List.find?_range_eq_some.1 h
   exact .inr ⟨i,List.mem_range.1 h2,by rw [MW,h],h1,fun k hk=>by have:=h3 k hk;simpa using this⟩
def LV (os:List AT) (i:Nat):Bool:= !(ob os i).live&&decide ((ob os i).gen<999)
def CU (os:List AT):Int:=MW os.length (LV os)
def J0 (ws:List Wk):Int:=MW ws.length fun i=> !(wk ws i).used
theorem UP {os:List AT} {b c d:List T} {K:J2} (hol:os.length=8) (h:K [I (CU os)] []):cl2 ⟨Try.prog,w0⟩ 152 EK.sg [] [tR tO os,b,c,d] K:=by
 refine EK.cl2 ?_
 unfold EK.txt
 simp only [AG,AR,AL,AJ,AK,AE,AH,AO,AI,AS,AN,AM,AP,AQ,BE,BM,BJ,BL,BH,BK,BF,A5,AX,AY,A4,A6,AZ]
 refine BC (fun i=>[iv i]) (fun _=>[]) os.length (fun i=> ∀k,k<i→LV os k=false) rfl rfl (fun k hk=>by omega) (fun R i hi hP hR=> ?_)
 simp only [AG,AR,AL,AJ,AK,AE,AH,AO,AI,AS,AN,AM,AP,AQ,BE,BM,BJ,BL,BH,BK,BF,A5,AX,AY,A4,A6,AZ]
 refine A8 (BU (MH (fun hlt=> ?_) fun hge=> ?_))
 ·have hlt':i<os.length:=by omega
  refine A8 (FI hlt rfl (FM (by omega) ?_))
  have no:LV os i=false→R [iv (i+1)] []:=fun hn=>hR hlt' fun k hk=>(Nat.lt_succ_iff_lt_or_eq.1 hk).elim (hP k) fun he=>he ▸ hn
  have yes:LV os i=true→K [iv i] []:=fun hy=>by unfold CU at h;rw [UE hlt' hy hP] at h;exact h
  refine AU hlt' ?_
  cases hv:(ob os i).live with
  | false=>
    refine JJ (v:= .bool false) hlt' (by simp [tO,hv]) (C3 ?_)
    repeat' (first | refine AU hlt' ?_ | refine II (v:=I (ob os i).gen) hlt' (by decide) rfl ?_ | refine BU ?_ | refine HG ?_ | refine OA rfl ?_ | refine A8 ?_ | refine A9 (by omega) ?_ | refine AW (fun _=> ?_) (fun _=> ?_))
    ·exact yes (by simp [LV,hv];omega)
    ·exact no (by simp [LV,hv];omega)
  | true=>
    refine JJ (v:= .bool true) hlt' (by simp [tO,hv]) (C3 ?_)
    repeat' (first | refine BU ?_ | refine JW ?_ | refine ZI rfl ?_ | refine B7 ?_ | refine A9 (by omega) ?_)
    all_goals exact no (by simp [LV,hv])
 ·refine FL hge rfl (B7 ?_)
  have:i=os.length:=by omega
  subst this
  unfold CU at h
  rw [YG hP] at h;exact h
def KB (g s:Int):AT:=⟨true,g,s,1,0,1,P2,false⟩
def IY (os:List AT) (ss:List ByteArray) (s:ByteArray):List AT×List ByteArray×An:=
 if ¬(1≤(s.size:Int)∧(s.size:Int)≤8) then (os,ss,⟨2,0,[]⟩)
 else if CU os<0 then (os,ss,⟨3,0,[]⟩)
 else if at_ ss s<0∧6≤ss.length then (os,ss,⟨6,0,[]⟩)
 else (os.set (CU os).toNat (KB (w64 ((ob os (CU os).toNat).gen+1)) (if at_ ss s<0 then ss.length else at_ ss s)),(if at_ ss s<0 then ss++[s] else ss),⟨0,CA (CU os) (w64 ((ob os (CU os).toNat).gen+1)),[]⟩)
theorem O2 {os:List AT} (h: ¬CU os<0):(CU os).toNat<os.length∧CU os=((CU os).toNat:Int)∧LV os (CU os).toNat=true:=by
 rcases S1 os.length (LV os) with ⟨h1,_⟩ | ⟨i,h1,h2,h3,_⟩
 ·unfold CU at h;omega
 ·have e:CU os=i:=h2
  have e2:(CU os).toNat=i:=by omega
  rw [e2];exact ⟨h1,e,h3⟩
theorem p9 {l:List ByteArray} {x s:ByteArray} (h:x∉l):at_ (l++[x]) s=if x=s then (l.length:Int) else at_ l s:=by
 unfold at_
 by_cases hs:s∈l
 ·rw [if_pos (List.mem_append_left _ hs),if_pos hs,List.idxOf_append,if_pos hs,if_neg (show ¬x=s from fun he=>h (he ▸ hs))]
 ·by_cases hx:x=s
  ·rw [if_pos (by simp [hx]),if_pos hx,List.idxOf_append,if_neg hs]
   simp [hx]
  ·rw [if_neg (by simp [hs,Ne.symm hx]),if_neg hx,if_neg hs]
theorem WB {os:List AT} {b c:List T} {ss:List ByteArray} {s:ByteArray} {k1 k2 k3 k4:Int} {K:J2} (hol:os.length=8) (hss:MD ss) (h:K [I (IY os ss s).2.2.code,I (IY os ss s).2.2.val] [tR tO (IY os ss s).1,tS (IY os ss s).2.1,tI (IY os ss s).2.2.freed]):cl2 ⟨Try.prog,w0⟩ 123 FN.sg [I k1,I k2,I k3,I k4, .string s] [tR tO os,b,c,tS ss] K:=by
 have hsl:=hss.len
 refine FN.cl2 ?_
 unfold FN.txt
 unfold IY at h
 refine iW (DY (FD (AW (fun hb=> ?_) fun hb=> ?_)))
 ·rw [if_pos hb] at h
  exact h
 rw [if_neg hb] at h
 refine UP hol (A8 (AW (fun hf=> ?_) fun hf=> ?_))
 ·rw [if_pos hf] at h
  exact h
 rw [if_neg hf] at h
 obtain ⟨f1,f2,f3⟩:=O2 hf
 refine BC (fun i=>[I (CU os),I (at_ (ss.take i) s),iv i,I k1,I k2,I k3,I k4, .string s,I 0,I 0]) (fun _=>[tR tO os,tS ss]) ss.length (fun i=>True) rfl rfl trivial (fun R i hi hP hR=> ?_)
 simp only [AG,AR,AL,AJ,AK,AE,AH,AO,AI,AS,AN,AM,AP,AQ,BE,BM,BJ,BL,BH,BK,BF,A5,AX,AY,A4,A6,AZ]
 simp only [BF,tU,vH,tT]
 refine A8 (AW (fun hlt=> ?_) fun hge=> ?_)
 ·have hlt:i<ss.length:=by omega
  replace hR:=hR hlt trivial
  have hone:=hss.one i hlt
  rw [List.take_succ_eq_append_getElem hlt,SL hlt,p9 hone] at hR
  refine BQ (AU hlt (ldS hlt (cA (AW (fun he=> ?_) fun he=> ?_))))
  ·rw [if_pos he,List.length_take,Nat.min_eq_left hi] at hR
   exact A9 (by omega) hR
  ·rw [if_neg he] at hR
   exact A9 (by omega) hR
 ·have:i=ss.length:=by omega
  subst this
  rw [List.take_length]
  refine A8 ?_
  by_cases ha:at_ ss s<0
  ·by_cases h6:6≤ss.length
   ·rw [if_pos ⟨ha,h6⟩] at h
    repeat' (first | exact h | refine BU ?_ | refine KX (by first | with_reducible assumption | omega) ?_ | refine FI (by first | with_reducible assumption | omega) rfl ?_ | refine FM (by first | with_reducible assumption | omega) ?_ | refine KE ?_)
    all_goals omega
   ·rw [if_neg (by omega),if_pos ha,if_pos ha] at h
    refine BU (BU (BU (KX ha (LB (FI ha rfl (D9 (by omega) (BQ (A8 (FM ha (DQ rfl (by omega) ?_))))))))))
    repeat' (first | refine IS ?_ | refine GK ?_ | refine S8 (by omega) (by omega) ?_ | refine II (by omega) (by decide) rfl ?_ | simp only [AG,AR,AL,AJ,AK,AE,AH,AO,AI,AS,AN,AM,AP,AQ,BE,BM,BJ,BL,BH,BK,BF,A5,AX,AY,A4,A6,AZ])
    rw [←jA] at h
    exact PZ (y:=KB (w64 ((ob os (CU os).toNat).gen+1)) ss.length) (by omega) rfl (G7 h)
  ·rw [if_neg (by omega),if_neg ha,if_neg ha] at h
   refine BU (BU (BU (OQ ha (FL ha rfl (B7 (BQ (A8 (D9 (by omega) ?_))))))))
   repeat' (first | refine IS ?_ | refine GK ?_ | refine S8 (by omega) (by omega) ?_ | refine II (by omega) (by decide) rfl ?_ | simp only [AG,AR,AL,AJ,AK,AE,AH,AO,AI,AS,AN,AM,AP,AQ,BE,BM,BJ,BL,BH,BK,BF,A5,AX,AY,A4,A6,AZ])
   exact PZ (y:=KB (w64 ((ob os (CU os).toNat).gen+1)) (at_ ss s)) (by omega) rfl (G7 h)
def O9 (r:List AT×List Int×List Int):List AT×List Int×An:=(r.1,r.2.1,⟨0,0,r.2.2⟩)
def HX (os:List AT) (buf:List Int) (kind id:Int):List AT×List Int×An:=
 if AA os id<0 then (os,buf,⟨1,0,[]⟩) else
 if kind=2 then
  if (ob os (AA os id).toNat).holds=20 then (os,buf,⟨4,0,[]⟩) else (EJ (os.set (AA os id).toNat {ob os (AA os id).toNat with holds:=(ob os (AA os id).toNat).holds+1}) id,buf,⟨0,0,[]⟩)
 else if kind=5 then
  if (ob os (AA os id).toNat).roots=20 then (os,buf,⟨4,0,[]⟩) else (EJ (os.set (AA os id).toNat {ob os (AA os id).toNat with roots:=(ob os (AA os id).toNat).roots+1}) id,buf,⟨0,0,[]⟩)
 else if kind=3 then
  if (ob os (AA os id).toNat).holds=0 then (os,buf,⟨5,0,[]⟩) else O9 (GG (os.set (AA os id).toNat {ob os (AA os id).toNat with holds:=(ob os (AA os id).toNat).holds-1}) buf [id])
 else
  if (ob os (AA os id).toNat).roots=0 then (os,buf,⟨5,0,[]⟩) else O9 (GG (os.set (AA os id).toNat {ob os (AA os id).toNat with roots:=(ob os (AA os id).toNat).roots-1}) buf [id])
theorem wQ {os:List AT} {k:Nat} {v:Int} {K:List T→Prop} (hk:k<os.length) (h:K (tR tO (os.set k {ob os k with holds:=v}))):stc (tR tO os) [] (AB (iv k)*8+3) (I v) K:=by
 rw [←DJ hk] at h;exact kY hk h
theorem wS {os:List AT} {k:Nat} {v:Int} {K:List T→Prop} (hk:k<os.length) (h:K (tR tO (os.set k {ob os k with roots:=v}))):stc (tR tO os) [] (AB (iv k)*8+4) (I v) K:=by
 rw [←DJ hk] at h;exact RM hk (by decide) rfl rfl h
theorem St.set {h:Hp} {os:List AT} (st:St h) (hl:os.length=h.AD.length) (ho: ∀o∈os,OF o):St {h with AD:=os}:=⟨by have:=st.ol;simp only;omega,st.wl,st.sl,st.bl,ho,st.ss,st.wf,st.bf⟩
theorem XT {h:Hp} {kind id b c:Int} {s:ByteArray} {K:J2} (st:St h) (hid:F64 id) (hkd:kind=2∨kind=3∨kind=5∨kind=6) (hr: ∀i,(0≤(ob h.AD i).holds∧(ob h.AD i).holds≤20)∧(0≤(ob h.AD i).roots∧(ob h.AD i).roots≤20)) (hK:K [I (HX h.AD h.buffer kind id).2.2.code,I (HX h.AD h.buffer kind id).2.2.val] [tR tO (HX h.AD h.buffer kind id).1,tR tW h.B1,tI (HX h.AD h.buffer kind id).2.1,tS h.sites,tI (HX h.AD h.buffer kind id).2.2.freed]):cl2 ⟨Try.prog,w0⟩ 124 GQ.sg [I kind,I id,I b,I c, .string s] (trees h) K:=by
 refine GQ.cl2 ?_
 unfold GQ.txt
 obtain ⟨os,ws,buf,ss⟩:=h
 have hol:os.length=8:=st.ol
 have hof: ∀o∈os,OF o:=st.of
 simp only at hr hK
 simp only [trees]
 simp only [AG,AR,AL,AJ,AK,AE,AH,AO,AI,AS,AN,AM,AP,AQ,BE,BM,BJ,BL,BH,BK,BF,A5,AX,AY,A4,A6,AZ]
 unfold HX at hK
 refine B6 hid (by omega) (A8 (AW (fun hs=> ?_) fun hs=> ?_))
 ·rw [if_pos hs] at hK
  exact hK
 rw [if_neg hs] at hK
 have hkb:=BN (l:=os) (id:=id) (by omega)
 obtain ⟨k,hkk⟩: ∃k,(AA os id).toNat=k:=⟨_,rfl⟩
 have hkI:AA os id=(k:Int):=by omega
 rw [hkk] at hK hkb
 have hkl:k<os.length:=by omega
 have hrk:=hr k
 have ho:=hof _ (JD (l:=os) (i:=k) (by omega))
 obtain ⟨⟨r1,r2⟩,r3,r4⟩:=hrk
 rw [BE,hkI]
 refine AU (by omega) (L7 hkl (BQ (BQ ?_)))
 simp only [hI,hU,pN,nU,mT,iL,m5]
 have gn: ∀{os':List AT} {K:J2},os'.length=os.length→(∀o∈os',OF o)→K [] [tR tO (EJ os' id),tR tW ws,tI buf,tS ss]→cl2 ⟨Try.prog,w0⟩ 153 FJ.sg [I id] [tR tO os',tR tW ws,tI buf,tS ss] K:=fun hl ho hk=>T7 (St.set st hl ho) hid hk
 have ls: ∀{os':List AT} {K:J2},os'.length=os.length→(∀o∈os',OF o)→K [] [tR tO (GG os' buf [id]).1,tR tW ws,tI (GG os' buf [id]).2.1,tS ss,tI (GG os' buf [id]).2.2]→cl2 ⟨Try.prog,w0⟩ 154 F9.sg [] [tR tO os',tR tW ws,tI buf,tS ss,tI [id]] K:=fun hl ho hk=>T3 (St.set st hl ho) (by simp) (by simpa using hid) hk
 rcases hkd with rfl | rfl | rfl | rfl
 ·simp only [if_true] at hK
  by_cases h20:(ob os k).holds=20
  ·rw [if_pos h20] at hK
   repeat' (first | refine BU ?_ | refine HG ?_ | refine FI (by first | with_reducible assumption | omega) rfl ?_ | refine FM (by first | with_reducible assumption | omega) ?_ | refine KE ?_ | refine BV ?_ | simp only [AG,AR,AL,AJ,AK,AE,AH,AO,AI,AS,AN,AM,AP,AQ,BE,BM,BJ,BL,BH,BK,BF,A5,AX,AY,A4,A6,AZ])
   exact hK
  ·rw [if_neg h20] at hK
   repeat' (first | refine BQ ?_ | refine BU ?_ | refine HG ?_ | refine JW ?_ | refine FI (by first | with_reducible assumption | omega) rfl ?_ | refine FL (by first | with_reducible assumption | omega) rfl ?_ | refine CM ?_ | refine B7 ?_ | refine D9 (by first | with_reducible assumption | omega) ?_ | refine KE ?_ | refine BV ?_ | refine FT ⟨by omega,by omega⟩ ?_ | refine AU (by omega) ?_ | simp only [AG,AR,AL,AJ,AK,AE,AH,AO,AI,AS,AN,AM,AP,AQ,BE,BM,BJ,BL,BH,BK,BF,A5,AX,AY,A4,A6,AZ])
   exact wQ hkl (gn (by simp) (M6 hof ⟨ho.gen,ho.len,ho.fld⟩) hK)
 ·simp only [if_neg (show ¬(3:Int)=2 by decide),if_neg (show ¬(3:Int)=5 by decide),if_true] at hK
  by_cases h20:(ob os k).holds=0
  ·rw [if_pos h20] at hK
   repeat' (first | refine BQ ?_ | refine BU ?_ | refine HG ?_ | refine JW ?_ | refine FI (by first | with_reducible assumption | omega) rfl ?_ | refine FL (by first | with_reducible assumption | omega) rfl ?_ | refine B7 ?_ | refine FM (by first | with_reducible assumption | omega) ?_ | refine A8 ?_ | refine BV ?_ | simp only [AG,AR,AL,AJ,AK,AE,AH,AO,AI,AS,AN,AM,AP,AQ,BE,BM,BJ,BL,BH,BK,BF,A5,AX,AY,A4,A6,AZ])
   exact hK
  ·rw [if_neg h20] at hK
   repeat' (first | refine BQ ?_ | refine BU ?_ | refine HG ?_ | refine JW ?_ | refine FI (by first | with_reducible assumption | omega) rfl ?_ | refine FL (by first | with_reducible assumption | omega) rfl ?_ | refine CM ?_ | refine B7 ?_ | refine D9 (by first | with_reducible assumption | omega) ?_ | refine A8 ?_ | refine BV ?_ | refine FT ⟨by omega,by omega⟩ ?_ | refine AU (by omega) ?_ | simp only [AG,AR,AL,AJ,AK,AE,AH,AO,AI,AS,AN,AM,AP,AQ,BE,BM,BJ,BL,BH,BK,BF,A5,AX,AY,A4,A6,AZ])
   exact wQ hkl (ls (by simp) (M6 hof ⟨ho.gen,ho.len,ho.fld⟩) hK)
 ·simp only [if_neg (show ¬(5:Int)=2 by decide),if_true] at hK
  by_cases h20:(ob os k).roots=20
  ·rw [if_pos h20] at hK
   repeat' (first | refine BU ?_ | refine HG ?_ | refine JW ?_ | refine FI (by first | with_reducible assumption | omega) rfl ?_ | refine FL (by first | with_reducible assumption | omega) rfl ?_ | refine B7 ?_ | refine FM (by first | with_reducible assumption | omega) ?_ | refine KE ?_ | refine BV ?_ | simp only [AG,AR,AL,AJ,AK,AE,AH,AO,AI,AS,AN,AM,AP,AQ,BE,BM,BJ,BL,BH,BK,BF,A5,AX,AY,A4,A6,AZ])
   exact hK
  ·rw [if_neg h20] at hK
   repeat' (first | refine BQ ?_ | refine BU ?_ | refine HG ?_ | refine JW ?_ | refine FI (by first | with_reducible assumption | omega) rfl ?_ | refine FL (by first | with_reducible assumption | omega) rfl ?_ | refine CM ?_ | refine B7 ?_ | refine D9 (by first | with_reducible assumption | omega) ?_ | refine KE ?_ | refine BV ?_ | refine FT ⟨by omega,by omega⟩ ?_ | refine AU (by omega) ?_ | simp only [AG,AR,AL,AJ,AK,AE,AH,AO,AI,AS,AN,AM,AP,AQ,BE,BM,BJ,BL,BH,BK,BF,A5,AX,AY,A4,A6,AZ])
   exact wS hkl (gn (by simp) (M6 hof ⟨ho.gen,ho.len,ho.fld⟩) hK)
 ·simp only [if_neg (show ¬(6:Int)=2 by decide),if_neg (show ¬(6:Int)=5 by decide),if_neg (show ¬(6:Int)=3 by decide)] at hK
  by_cases h20:(ob os k).roots=0
  ·rw [if_pos h20] at hK
   repeat' (first | refine BQ ?_ | refine BU ?_ | refine HG ?_ | refine JW ?_ | refine FI (by first | with_reducible assumption | omega) rfl ?_ | refine FL (by first | with_reducible assumption | omega) rfl ?_ | refine B7 ?_ | refine FM (by first | with_reducible assumption | omega) ?_ | refine A8 ?_ | refine BV ?_ | simp only [AG,AR,AL,AJ,AK,AE,AH,AO,AI,AS,AN,AM,AP,AQ,BE,BM,BJ,BL,BH,BK,BF,A5,AX,AY,A4,A6,AZ])
   exact hK
  ·rw [if_neg h20] at hK
   repeat' (first | refine BQ ?_ | refine BU ?_ | refine HG ?_ | refine JW ?_ | refine FI (by first | with_reducible assumption | omega) rfl ?_ | refine FL (by first | with_reducible assumption | omega) rfl ?_ | refine B7 ?_ | refine D9 (by first | with_reducible assumption | omega) ?_ | refine A8 ?_ | refine BV ?_ | refine FT ⟨by omega,by omega⟩ ?_ | refine AU (by omega) ?_ | simp only [AG,AR,AL,AJ,AK,AE,AH,AO,AI,AS,AN,AM,AP,AQ,BE,BM,BJ,BL,BH,BK,BF,A5,AX,AY,A4,A6,AZ])
   exact wS hkl (ls (by simp) (M6 hof ⟨ho.gen,ho.len,ho.fld⟩) hK)
end Go.Proofs.Ytklmcfpgdfibnaa.P
namespace Go.Proofs.Ytklmcfpgdfibnaa.P
open Go Go.Proofs.Ytklmcfpgdfibnaa Go.Proofs.Ytklmcfpgdfibnaa.Eng
set_option linter.unusedVariables false
set_option maxHeartbeats 4000000
set_option linter.unusedVariables false
set_option linter.unusedSimpArgs false
attribute [local irreducible] prP gP gE gF A7 ixW ldc ldg ldl stc stg scW mkW apW BD cl2 BP DT C0
variable {w0:World}
def J9 (os:List AT) (buf:List Int) (a b c:Int):List AT×List Int×An:=
 if AA os a<0∨(c≠ -1∧AA os c<0) then (os,buf,⟨1,0,[]⟩) else
 if ¬(0≤b∧b≤2) then (os,buf,⟨2,0,[]⟩) else
 if gI (ob os (AA os a).toNat).field b.toNat= -1 then
  ((EJ os c).set (AA os a).toNat {ob (EJ os c) (AA os a).toNat with field:=(ob os (AA os a).toNat).field.set b.toNat c},buf,⟨0,0,[]⟩)
 else O9 (GG ((EJ os c).set (AA os a).toNat {ob (EJ os c) (AA os a).toNat with field:=(ob os (AA os a).toNat).field.set b.toNat c}) buf [gI (ob os (AA os a).toNat).field b.toNat])
theorem EI {l:List AT} {i k:Nat} {o:AT} (hk:k<l.length):ob (l.set k o) i=if i=k then o else ob l i:=by
 unfold ob
 by_cases h:i=k
 ·subst h
  rw [if_pos rfl,List.getD_eq_getElem?_getD,List.getElem?_set_self hk];rfl
 ·rw [if_neg h,List.getD_eq_getElem?_getD,List.getElem?_set_ne (Ne.symm h),List.getD_eq_getElem?_getD]
theorem b7 {os:List AT} {id:Int} {i:Nat}:(ob (EJ os id) i).live=(ob os i).live∧(ob (EJ os id) i).gen=(ob os i).gen∧(ob (EJ os id) i).site=(ob os i).site∧(ob (EJ os id) i).holds=(ob os i).holds∧(ob (EJ os id) i).roots=(ob os i).roots∧(ob (EJ os id) i).field=(ob os i).field∧(ob (EJ os id) i).purple=(ob os i).purple:=by
 unfold EJ
 split
 ·exact ⟨rfl,rfl,rfl,rfl,rfl,rfl,rfl⟩
 ·have hk:=BN (l:=os) (id:=id) (by omega)
  rw [EI (by omega)]
  split
  ·rename_i h;subst h;exact ⟨rfl,rfl,rfl,rfl,rfl,rfl,rfl⟩
  ·exact ⟨rfl,rfl,rfl,rfl,rfl,rfl,rfl⟩
theorem stF {os:List AT} {k j:Nat} {v:Int} {K:List T→Prop} (hk:k<os.length) (hj:j<(ob os k).field.length) (h:K (tR tO (os.set k {ob os k with field:=(ob os k).field.set j v}))):stc (tR tO os) [AB (iv k)*8+6] (AB (iv j)*1) (I v) K:=by
 rw [←DJ hk] at h hj;exact lJ hk hj h
theorem OF.put {o:AT} {m:List Int} (h:OF o) (hl:m.length=3) (hf: ∀x∈m,F64 x):OF {o with field:=m}:=⟨h.gen,hl,hf⟩
theorem VW {h:Hp} {a0 a1 a2 a3:Int} {s:ByteArray} {K:J2} (st:St h) (h1:F64 a1) (h3:F64 a3) (hfd: ∀i, ∀f∈(ob h.AD i).field,f= -1∨0≤f) (hK:K [I (J9 h.AD h.buffer a1 a2 a3).2.2.code,I (J9 h.AD h.buffer a1 a2 a3).2.2.val] [tR tO (J9 h.AD h.buffer a1 a2 a3).1,tR tW h.B1,tI (J9 h.AD h.buffer a1 a2 a3).2.1,tS h.sites,tI (J9 h.AD h.buffer a1 a2 a3).2.2.freed]):cl2 ⟨Try.prog,w0⟩ 125 FU.sg [I a0,I a1,I a2,I a3, .string s] (trees h) K:=by
 refine FU.cl2 ?_
 unfold FU.txt
 obtain ⟨os,ws,buf,ss⟩:=h
 have hol:os.length=8:=st.ol
 have hof: ∀o∈os,OF o:=st.of
 simp only at hK hfd
 simp only [trees]
 unfold J9 at hK
 have gn: ∀{K:J2},K [] [tR tO (EJ os a3),tR tW ws,tI buf,tS ss]→cl2 ⟨Try.prog,w0⟩ 153 FJ.sg [I a3] [tR tO os,tR tW ws,tI buf,tS ss] K:=fun hk=>T7 st h3 hk
 have ls: ∀{os':List AT} {x:Int} {K:J2},os'.length=os.length→(∀o∈os',OF o)→F64 x→K [] [tR tO (GG os' buf [x]).1,tR tW ws,tI (GG os' buf [x]).2.1,tS ss,tI (GG os' buf [x]).2.2]→cl2 ⟨Try.prog,w0⟩ 154 F9.sg [] [tR tO os',tR tW ws,tI buf,tS ss,tI [x]] K:=fun hl ho hx hk=>T3 (St.set st hl ho) (by simp) (by simpa using hx) hk
 refine B6 h1 (by omega) ?_
 by_cases hs:AA os a1<0
 ·rw [if_pos (.inl hs)] at hK
  repeat' (first | exact hK | refine BU ?_ | refine xL ?_ | refine eO (by first | with_reducible assumption | omega) ?_ | refine OR (by first | with_reducible assumption | omega) ?_ | refine FI (by first | with_reducible assumption | omega) rfl ?_ | refine CM ?_ | refine A8 ?_)
 have hkb:=BN (l:=os) (id:=a1) (by omega)
 by_cases hc:a3≠ -1∧AA os a3<0
 ·obtain ⟨hc1,hc2⟩:=hc
  rw [if_pos (.inr ⟨hc1,hc2⟩)] at hK
  repeat' (first | refine B6 h3 (by omega) ?_ | exact hK | refine BU ?_ | refine bA ?_ | refine aK (by first | with_reducible assumption | omega) ?_ | refine KX (by first | with_reducible assumption | omega) ?_ | refine I2 (by first | with_reducible assumption | omega) ?_ | refine FI (by first | with_reducible assumption | omega) rfl ?_ | refine FL (by first | with_reducible assumption | omega) rfl ?_ | refine FM (by first | with_reducible assumption | omega) ?_ | refine A8 ?_ | refine CP ?_)
 rw [if_neg (by omega)] at hK
 by_cases hb2: ¬(0≤a2∧a2≤2)
 ·rw [if_pos hb2] at hK
  repeat' (first | refine B6 h3 (by omega) ?_ | refine DY ?_ | exact hK | refine BU ?_ | refine bA ?_ | refine aK (by first | with_reducible assumption | omega) ?_ | refine KX (by first | with_reducible assumption | omega) ?_ | refine OQ (by first | with_reducible assumption | omega) ?_ | refine I2 (by first | with_reducible assumption | omega) ?_ | refine FI (by first | with_reducible assumption | omega) rfl ?_ | refine FL (by first | with_reducible assumption | omega) rfl ?_ | refine B7 ?_ | refine FM (by first | with_reducible assumption | omega) ?_ | refine D9 (by first | with_reducible assumption | omega) ?_ | refine A8 ?_ | refine CP ?_ | refine FD ?_ | refine MH (fun _=> ?_) (fun _=> ?_))
 rw [if_neg hb2] at hK
 obtain ⟨k,hkk⟩: ∃k,(AA os a1).toNat=k:=⟨_,rfl⟩
 have hkI:AA os a1=(k:Int):=by omega
 rw [hkk] at hK hkb
 obtain ⟨j,rfl⟩: ∃j:Nat,a2=j:=⟨a2.toNat,by omega⟩
 rw [Int.toNat_natCast] at hK
 have hkl:k<os.length:=by omega
 have ho:=hof _ (JD (l:=os) (i:=k) (by omega))
 obtain ⟨_,_,_,_,_,gf,_⟩:=b7 (os:=os) (id:=a3) (i:=k)
 have gl:=X5 os a3
 have gof:=nL (id:=a3) hof
 have jl:j<(ob os k).field.length:=by rw [ho.len];omega
 have hold:=hfd k _ (DN jl)
 rw [hkI]
 repeat' (first | refine B6 h3 (by omega) ?_ | refine DY ?_ | refine BU ?_ | refine bA ?_ | refine nW ?_ | refine Y6 ?_ | refine KX (by first | with_reducible assumption | omega) ?_ | refine OQ (by first | with_reducible assumption | omega) ?_ | refine FI (by first | with_reducible assumption | omega) rfl ?_ | refine FL (by first | with_reducible assumption | omega) rfl ?_ | refine B7 ?_ | refine D9 (by first | with_reducible assumption | omega) ?_ | refine A8 ?_ | refine CP ?_ | refine FD ?_ | refine AU (by omega) ?_ | refine VU (by omega) ?_ | refine MH (fun _=> ?_) (fun _=> ?_) | simp only [AG,AR,AL,AJ,AK,AE,AH,AO,AI,AS,AN,AM,AP,AQ,BE,BM,BJ,BL,BH,BK,BF,A5,AX,AY,A4,A6,AZ])
 all_goals
  refine AU (by rw [G9 (by omega),AE];exact jl) (LX (by omega) jl (BQ ?_))
  simp only [AG,AR,AL,AJ,AK,AE,AH,AO,AI,AS,AN,AM,AP,AQ,BE,BM,BJ,BL,BH,BK,BF,A5,AX,AY,A4,A6,AZ]
  refine LB (AW (fun hge=>gn ?_) fun hlt=> ?_)
  ·simp only [AG,AR,AL,AJ,AK,AE,AH,AO,AI,AS,AN,AM,AP,AQ,BE,BM,BJ,BL,BH,BK,BF,A5,AX,AY,A4,A6,AZ]
   refine AU (by omega) (RK (f:=tO) (i:=k) (by omega) (by decide) rfl ?_)
   refine AU (by rw [G9 (by omega),AE,gf];exact jl) (stF (by omega) (by rw [gf];exact jl) ?_)
   rw [gf]
   refine A8 (AW (fun he=> ?_) fun he=> ?_)
   ·rw [if_pos (by omega)] at hK;exact hK
   ·rw [if_neg (by omega)] at hK
    exact ls (by simpa using gl) (M6 gof (OF.put (gof _ (JD (by omega))) (by rw [List.length_set];exact ho.len) fun x hx=>(List.mem_or_eq_of_mem_set hx).elim (ho.fld x) fun he=>he ▸ h3)) (ho.fld _ (DN jl)) hK
  ·have e0:EJ os a3=os:=by unfold EJ;rw [if_pos];rw [FK (by omega)];decide
   rw [e0] at hK
   refine AU (by omega) (RK (f:=tO) (i:=k) (by omega) (by decide) rfl ?_)
   refine AU (by rw [G9 (by omega),AE];exact jl) (stF (by omega) jl ?_)
   refine A8 (AW (fun he=> ?_) fun he=> ?_)
   ·rw [if_pos (by omega)] at hK;exact hK
   ·rw [if_neg (by omega)] at hK
    exact ls (by simp) (M6 hof (OF.put ho (by rw [List.length_set];exact ho.len) fun x hx=>(List.mem_or_eq_of_mem_set hx).elim (ho.fld x) fun he=>he ▸ h3)) (ho.fld _ (DN jl)) hK
def PI (os:List AT) (ws:List Wk) (id:Int):List Wk×An:=
 if AA os id<0 then (ws,⟨1,0,[]⟩) else if J0 ws<0 then (ws,⟨3,0,[]⟩) else (ws.set (J0 ws).toNat ⟨true,id⟩,⟨0,J0 ws,[]⟩)
def JM (os:List AT) (ws:List Wk) (kind k:Int):List Wk×An:=
 if ¬(0≤k∧k≤(ws.length:Int)-1) then (ws,⟨2,0,[]⟩) else
 if (wk ws k.toNat).used=false then (ws,⟨2,0,[]⟩) else
 if kind=9 then (ws.set k.toNat ⟨false,0⟩,⟨0,0,[]⟩) else
 if AA os (wk ws k.toNat).target<0 then (ws,⟨0, -1,[]⟩) else (ws,⟨0,(wk ws k.toNat).target,[]⟩)
theorem kK {ws:List Wk} (h: ¬J0 ws<0):(J0 ws).toNat<ws.length∧J0 ws=((J0 ws).toNat:Int)∧(wk ws (J0 ws).toNat).used=false:=by
 rcases S1 ws.length (fun i=> !(wk ws i).used) with ⟨h1,_⟩ | ⟨i,h1,h2,h3,_⟩
 ·unfold J0 at h;omega
 ·have e:J0 ws=i:=h2
  have e2:(J0 ws).toNat=i:=by omega
  rw [e2];exact ⟨h1,e,by simpa using h3⟩
theorem XV {os:List AT} {ws:List Wk} {cc d:List T} {kind k b c:Int} {s:ByteArray} {K:J2} (hol:os.length=8) (hwl:ws.length=8) (hk:F64 k) (hwf: ∀w∈ws,F64 w.target) (h7:kind=7→K [I (PI os ws k).2.code,I (PI os ws k).2.val] [tR tW (PI os ws k).1,tI (PI os ws k).2.freed]) (h:kind≠7→K [I (JM os ws kind k).2.code,I (JM os ws kind k).2.val] [tR tW (JM os ws kind k).1,tI (JM os ws kind k).2.freed]):cl2 ⟨Try.prog,w0⟩ 126 GV.sg [I kind,I k,I b,I c, .string s] [tR tO os,tR tW ws,cc,d] K:=by
 refine GV.cl2 ?_
 unfold GV.txt
 simp only [AG,AR,AL,AJ,AK,AE,AH,AO,AI,AS,AN,AM,AP,AQ,BE,BM,BJ,BL,BH,BK,BF,A5,AX,AY,A4,A6,AZ]
 refine BV (AW (fun he=> ?_) fun he=> ?_)
 ·replace h:=h7 he
  clear h7
  unfold PI at h
  refine B6 hk (by omega) (A8 (AW (fun hs=> ?_) fun hs=> ?_))
  ·rw [if_pos hs] at h;exact h
  rw [if_neg hs] at h
  refine BC (fun i=>[iv i,I kind,I k,I b,I c, .string s,I 0,I 0]) (fun _=>[tR tW ws]) ws.length (fun i=> ∀j,j<i→(!(wk ws j).used)=false) rfl rfl (fun k hk=>by omega) (fun R i hi hP hR=> ?_)
  simp only [AG,AR,AL,AJ,AK,AE,AH,AO,AI,AS,AN,AM,AP,AQ,BE,BM,BJ,BL,BH,BK,BF,A5,AX,AY,A4,A6,AZ]
  refine A8 (AW (fun hlt=> ?_) fun hge=> ?_)
  ·have hlt:i<ws.length:=by omega
   cases hv:(wk ws i).used with
   | false=>
     refine AU hlt (UW (v:= .bool false) hlt (by simp [tW,hv]) (C3 (CM (AU hlt ?_))))
     unfold J0 at h
     rw [UE hlt (by rw [hv];rfl) hP,if_neg (by omega),Int.toNat_natCast] at h
     exact PZ (f:=tW) hlt (y:=⟨true,k⟩) rfl h
   | true=>
     refine AU hlt (UW (v:= .bool true) hlt (by simp [tW,hv]) (C3 (B7 (A9 (by omega) (hR hlt fun k hk=> ?_)))))
     rcases Nat.lt_succ_iff_lt_or_eq.1 hk with h3 | rfl
     ·exact hP k h3
     ·rw [hv];rfl
  ·have:i=ws.length:=by omega
   subst this
   unfold J0 at h
   rw [YG hP,if_pos (by decide)] at h;exact h
 ·replace h:=h he
  clear h7
  unfold JM at h
  refine IT ⟨by omega,by omega⟩ (DY (FD ?_))
  by_cases hb: ¬(0≤k∧k≤(ws.length:Int)-1)
  ·rw [if_pos hb] at h
   repeat' (first | exact h | refine BU ?_ | refine OR (by first | with_reducible assumption | omega) ?_ | refine FI (by first | with_reducible assumption | omega) rfl ?_ | refine CM ?_)
  rw [if_neg hb] at h
  obtain ⟨j,rfl⟩: ∃j:Nat,k=j:=⟨k.toNat,by omega⟩
  rw [Int.toNat_natCast] at h
  have jl:j<ws.length:=by omega
  have hw:=hwf _ (List.getElem_mem jl)
  rw [cR jl] at hw
  cases hu:(wk ws j).used with
  | false=>
    rw [if_pos hu] at h
    repeat' (first | refine UW (v:= .bool false) jl (by simp [tW,hu]) ?_ | exact h | refine BU ?_ | refine I2 (by first | with_reducible assumption | omega) ?_ | refine FL (by first | with_reducible assumption | omega) rfl ?_ | refine CM ?_ | refine AU (by omega) ?_ | refine C3 ?_)
  | true=>
    rw [if_neg (by rw [hu];decide)] at h
    repeat' (first | refine UW (v:= .bool true) jl (by simp [tW,hu]) ?_ | refine B6 hw (by omega) ?_ | refine BU ?_ | refine I2 (by first | with_reducible assumption | omega) ?_ | refine FL (by first | with_reducible assumption | omega) rfl ?_ | refine B7 ?_ | refine A8 ?_ | refine BV ?_ | refine AU (by omega) ?_ | refine tE (by omega) (by decide) rfl ?_ | refine AW (fun _=> ?_) (fun _=> ?_) | refine C3 ?_)
    ·rename_i hh
     rw [if_pos hh] at h
     exact PZ (f:=tW) jl (y:=⟨false,0⟩) rfl h
    ·rename_i hh hs
     rw [if_neg hh,if_pos hs] at h
     exact h
    ·rename_i hh hs
     rw [if_neg hh,if_neg hs] at h
     exact h
end Go.Proofs.Ytklmcfpgdfibnaa.P
namespace Go.Proofs.Ytklmcfpgdfibnaa.P
open Go Go.Proofs.Ytklmcfpgdfibnaa Go.Proofs.Ytklmcfpgdfibnaa.Eng
set_option linter.unusedVariables false
theorem mP (n:Int):w64 n=(n+9223372036854775808) % 18446744073709551616-9223372036854775808:=by
 simp only [w64,IntKind.wrap,IntKind.bits,IntKind.signed]
 simp
 split <;> omega
theorem MM (a b:Int):w64 (w64 a+b)=w64 (a+b):=by simp only [mP];omega
theorem jI (a:Int):F64 (w64 a):=by rw [mP];exact ⟨by omega,by omega⟩
def GP:Nat→(Nat→Int)→Int
 | 0,_=>0
 | n+1,f=>GP n f+f n
theorem KV {n:Nat} {f g:Nat→Int} (h: ∀k,k<n→f k=g k):GP n f=GP n g:=by
 induction n with
 | zero=>rfl
 | succ n ih=>simp only [GP];rw [ih fun k hk=>h k (by omega),h n (by omega)]
theorem TU {n k0:Nat} {f g:Nat→Int} (hk:k0<n) (h: ∀k,k<n→k≠k0→f k=g k):GP n g=GP n f+(g k0-f k0):=by
 induction n with
 | zero=>omega
 | succ n ih=>
   simp only [GP]
   by_cases he:k0=n
   ·subst he
    rw [KV (g:=g) fun k hk=>h k (by omega) (by omega)];omega
   ·rw [ih (by omega) fun k hk hne=>h k (by omega) hne,h n (by omega) (by omega)];omega
theorem kS {n:Nat} {f g:Nat→Int}:GP n (fun k=>f k+g k)=GP n f+GP n g:=by
 induction n with
 | zero=>rfl
 | succ n ih=>simp only [GP,ih];omega
theorem IX {n:Nat} {f:Nat→Int} (h: ∀k,k<n→f k=0):GP n f=0:=by
 induction n with
 | zero=>rfl
 | succ n ih=>simp only [GP];rw [ih fun k hk=>h k (by omega),h n (by omega)];rfl
theorem KW {n:Nat} {f g:Nat→Int} (h: ∀k,k<n→f k≤g k):GP n f≤GP n g:=by
 induction n with
 | zero=>exact Int.le_refl _
 | succ n ih=>simp only [GP];have:=ih fun k hk=>h k (by omega);have:=h n (by omega);omega
theorem EA {l:List Int} {i k:Nat} {v:Int} (hk:k<l.length):gI (l.set k v) i=if i=k then v else gI l i:=by
 unfold gI
 by_cases h:i=k
 ·subst h
  rw [if_pos rfl,List.getD_eq_getElem?_getD,List.getElem?_set_self hk];rfl
 ·rw [if_neg h,List.getD_eq_getElem?_getD,List.getElem?_set_ne (Ne.symm h),List.getD_eq_getElem?_getD]
def BO (os:List AT) (k:Nat):List Int:=((ob os k).field.map (AA os)).filter fun x=>decide (0≤x)
def E (os:List AT) (k i:Nat):Int:=((BO os k).count (i:Int):Nat)
theorem B5 {os:List AT} {k:Nat} {x:Int} (h:x∈BO os k):0≤x∧x.toNat<8∧x=(x.toNat:Int)∧os.length=8∧(ob os x.toNat).live=true:=by
 obtain ⟨h1,h2⟩:=List.mem_filter.1 h
 obtain ⟨f,_,rfl⟩:=List.mem_map.1 h1
 have h2:0≤AA os f:=by simpa using h2
 have:=BN h2
 exact ⟨h2,this.2.2.2.1,by omega,this.1,this.2.2.2.2.1⟩
theorem LR {os:List AT} (hof: ∀o∈os,OF o) {k:Nat} (hk:k<os.length):(BO os k).length≤3:=by
 have:=List.length_filter_le (fun x=>decide (0≤x)) ((ob os k).field.map (AA os))
 rw [List.length_map,(hof _ (JD hk)).len] at this
 exact this
theorem OY (os:List AT) (k i:Nat):0≤E os k i:=Int.natCast_nonneg _
theorem uT {os:List AT} {k i:Nat} (h:(i:Int)∉BO os k):E os k i=0:=by
 unfold E;rw [List.count_eq_zero.2 h];rfl
inductive Reach (os:List AT) (s:Nat):Nat→Prop
 | refl:Reach os s s
 | step {k:Nat} {j:Int}:Reach os s k→j∈BO os k→Reach os s j.toNat
theorem Reach.trans {os:List AT} {a b c:Nat} (h:Reach os a b) (g:Reach os b c):Reach os a c:=by
 induction g with
 | refl=>exact h
 | step _ hj ih=>exact .step ih hj
theorem Reach.closed {os:List AT} {P:Nat→Prop} {s k:Nat} (h:Reach os s k) (hs:P s) (hc: ∀k,P k→ ∀j∈BO os k,P j.toNat):P k:=by
 induction h with
 | refl=>exact hs
 | step _ hj ih=>exact hc _ ih _ hj
theorem Reach.lt {os:List AT} {s k:Nat} (h:Reach os s k) (hs:s<8):k<8:=h.closed (P:=fun k=>k<8) hs fun _ _ _ hj=>(B5 hj).2.1
def S (os:List AT) (P:Nat→Bool) (i:Nat):Int:=GP 8 fun k=>if P k then E os k i else 0
theorem jB {os:List AT} {P Q:Nat→Bool} {i:Nat} (h: ∀k,k<8→P k=Q k):S os P i=S os Q i:=KV fun k hk=>by rw [h k hk]
theorem lW {os:List AT} {P Q:Nat→Bool} {i k0:Nat} (hk:k0<8) (h0:P k0=false) (h1:Q k0=true) (h: ∀k,k<8→k≠k0→P k=Q k):S os Q i=S os P i+E os k0 i:=by
 unfold S
 rw [TU (n:=8) (f:=fun k=>if P k then E os k i else 0) (g:=fun k=>if Q k then E os k i else 0) hk fun k hk hne=>by rw [h k hk hne]]
 simp only [h0,h1];simp
theorem aE {os:List AT} {P:Nat→Bool} {i:Nat}:S os P i+S os (fun k=> !P k) i=S os (fun _=>true) i:=by
 unfold S
 rw [←kS]
 refine KV fun k hk=> ?_
 cases h:P k <;> simp [h]
def isC (col:List Int) (c:Int) (k:Nat):Bool:=decide (gI col k=c)
theorem P4 {col:List Int} {c:Int} {k s:Nat} (hs:s<col.length):isC (col.set s c) c k=(decide (k=s)||isC col c k):=by
 unfold isC
 rw [EA hs]
 by_cases h:k=s
 ·simp [h]
 ·simp [h]
def JA (col:List Int) (c:Int):Nat:=(GP 8 fun k=>if isC col c k then 0 else 1).toNat
theorem iF {a b:List Int} {c:Int} (h: ∀k,k<8→gI a k=c→gI b k=c):JA b c≤JA a c:=by
 have:GP 8 (fun k=>if isC b c k then 0 else 1)≤GP 8 (fun k=>if isC a c k then 0 else 1):=KW fun k hk=>by
  by_cases h1:gI a k=c
  ·simp [isC,h1,h k hk h1]
  ·by_cases h3:gI b k=c <;> simp [isC,h1,h3]
 unfold JA;omega
theorem LA {a b:List Int} {c:Int} {s:Nat} (hs:s<8) (h0:gI a s≠c) (h1:gI b s=c) (h: ∀k,k<8→gI a k=c→gI b k=c):JA b c<JA a c:=by
 have hle:GP 8 (fun k=>if isC b c k then 0 else 1)≤GP 8 (fun k=>if isC a c k∨k=s then 0 else 1):=KW fun k hk=>by
  by_cases h2:gI a k=c
  ·simp [isC,h2,h k hk h2]
  ·by_cases hks:k=s
   ·subst hks;simp [isC,h1]
   ·by_cases h3:gI b k=c <;> simp [isC,h2,h3,hks]
 have hu:=TU (n:=8) (k0:=s) (f:=fun k=>if isC a c k∨k=s then (0:Int) else 1) (g:=fun k=>if isC a c k then (0:Int) else 1) hs fun k hk hne=>by simp [hne]
 have e1:isC a c s=false:=by simp [isC,h0]
 simp only [e1,or_true,if_true] at hu
 have h3:0≤GP 8 (fun k=>if isC b c k then (0:Int) else 1):=by
  have:=KW (n:=8) (f:=fun _=>0) (g:=fun k=>if isC b c k then (0:Int) else 1) fun k hk=>by split <;> simp
  rw [IX (fun _ _=>rfl)] at this;exact this
 simp only [Bool.false_eq_true,if_false] at hu
 unfold JA;omega
theorem TY (col:List Int) (c:Int):JA col c≤8:=by
 have:GP 8 (fun k=>if isC col c k then (0:Int) else 1)≤GP 8 (fun _=>1):=KW fun k hk=>by split <;> simp
 have e:GP 8 (fun _=>(1:Int))=8:=rfl
 unfold JA;omega
structure JK (os:List AT) (c m:Int) (cs col cs' col':List Int) (s:Nat):Prop where
 len:cs'.length=8∧col'.length=8
 f: ∀i,i<8→F64 (gI cs' i)
 JG: ∀k,k<8→gI col k=c→gI col' k=c
 only: ∀k,k<8→gI col' k≠c→gI col' k=gI col k
 got:gI col' s=c
 clo: ∀k,k<8→gI col' k=c→gI col k≠c→Reach os s k∧ ∀j∈BO os k,gI col' j.toNat=c
 cnt: ∀i,i<8→gI cs' i=w64 (gI cs i+m*(S os (isC col' c) i-S os (isC col c) i))
theorem JK.refl {os:List AT} {c m:Int} {cs col:List Int} {s:Nat} (h1:cs.length=8) (h2:col.length=8) (hf: ∀i,i<8→F64 (gI cs i)) (hs:gI col s=c):JK os c m cs col cs col s:=
 ⟨⟨h1,h2⟩,hf,fun _ _ h=>h,fun _ _ _=>rfl,hs,fun _ _ h1 h2=>absurd h1 h2,fun i hi=>by rw [Int.sub_self,Int.mul_zero,Int.add_zero,HW (hf i hi)]⟩
end Go.Proofs.Ytklmcfpgdfibnaa.P
