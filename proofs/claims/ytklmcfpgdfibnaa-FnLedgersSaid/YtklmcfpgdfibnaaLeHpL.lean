/- A part of the proof. -/
import Derived.Test.YtklmcfpgdfibnaaLeHpI
namespace Go.Proofs.Ytklmcfpgdfibnaa.P
open Go Go.Proofs.Ytklmcfpgdfibnaa Go.Proofs.Ytklmcfpgdfibnaa.Eng
set_option linter.unusedVariables false
set_option maxHeartbeats 4000000
set_option linter.unusedVariables false
set_option linter.unusedSimpArgs false
attribute [local irreducible] prP gP gE gF AJ ixW ldc ldg ldl stc stg scW mkW apW A6 cl2 BF CM CB
variable {w0:World}
def MB (n:Nat) (p:Nat→Bool):Int:=match (List.range n).find? p with
 | some i=>(i:Int)
 | none=> -1
theorem TF {n i:Nat} {p:Nat→Bool} (hi:i<n) (h:p i=true) (hb: ∀k,k<i→p k=false):MB n p=i:=by
 have:(List.range n).find? p=some i:=List.find?_range_eq_some.2 ⟨h,List.mem_range.2 hi,fun j hj=>by rw [hb j hj];rfl⟩
 rw [MB,this]
theorem YB {n:Nat} {p:Nat→Bool} (hb: ∀k,k<n→p k=false):MB n p= -1:=by
 have:(List.range n).find? p=none:=List.find?_range_eq_none.2 fun j hj=>by rw [hb j hj];rfl
 rw [MB,this]
theorem Q1 (n:Nat) (p:Nat→Bool):(MB n p= -1∧ ∀k,k<n→p k=false)∨ ∃i,i<n∧MB n p=(i:Int)∧p i=true∧ ∀k,k<i→p k=false:=by
 cases h:(List.range n).find? p with
 | none=>exact .inl ⟨by rw [MB,h],fun k hk=>by have:=List.find?_range_eq_none.1 h k hk;simpa using this⟩
 | some i=>
   obtain ⟨h1,h2,h3⟩:=List.find?_range_eq_some.1 h
   exact .inr ⟨i,List.mem_range.1 h2,by rw [MB,h],h1,fun k hk=>by have:=h3 k hk;simpa using this⟩
def KB (os:List AE) (i:Nat):Bool:= !(ob os i).live&&decide ((ob os i).gen<999)
def CO (os:List AE):Int:=MB os.length (KB os)
def JK (ws:List Wk):Int:=MB ws.length fun i=> !(wk ws i).used
theorem TV {os:List AE} {b c d:List T} {K:J2} (hol:os.length=8) (h:K [I (CO os)] []):cl2 ⟨Try.prog,w0⟩ 152 D4.sg [] [tR tO os,b,c,d] K:=by
 refine D4.cl2 ?_
 unfold D4.txt
 simp only [AN,AV,AK,AM,AU,AH,AL,AW,AO,AR,AS,AQ,AT,AP,BQ,BU,BY,BX,BZ,BW,BT,A7,BA,BB,A9,BC,A8]
 refine BK (fun i=>[iv i]) (fun _=>[]) os.length (fun i=> ∀k,k<i→KB os k=false) rfl rfl (fun k hk=>by omega) (fun R i hi hP hR=> ?_)
 simp only [AN,AV,AK,AM,AU,AH,AL,AW,AO,AR,AS,AQ,AT,AP,BQ,BU,BY,BX,BZ,BW,BT,A7,BA,BB,A9,BC,A8]
 refine A4 (BH (NV (fun hlt=> ?_) fun hge=> ?_))
 ·have hlt':i<os.length:=by omega
  refine A4 (GC hlt rfl (FQ (by omega) ?_))
  have no:KB os i=false→R [iv (i+1)] []:=fun hn=>hR hlt' fun k hk=>(Nat.lt_succ_iff_lt_or_eq.1 hk).elim (hP k) fun he=>he ▸ hn
  have yes:KB os i=true→K [iv i] []:=fun hy=>by unfold CO at h;rw [TF hlt' hy hP] at h;exact h
  refine AG hlt' ?_
  cases hv:(ob os i).live with
  | false=>
    refine KL (v:= .bool false) hlt' (by simp [tO,hv]) (EJ ?_)
    repeat' (first | refine AG hlt' ?_ | refine KC (v:=I (ob os i).gen) hlt' (by decide) rfl ?_ | refine BH ?_ | refine GO ?_ | refine NX rfl ?_ | refine A4 ?_ | refine BD (by omega) ?_ | refine AY (fun _=> ?_) (fun _=> ?_))
    ·exact yes (by simp [KB,hv];omega)
    ·exact no (by simp [KB,hv];omega)
  | true=>
    refine KL (v:= .bool true) hlt' (by simp [tO,hv]) (EJ ?_)
    repeat' (first | refine BH ?_ | refine GF ?_ | refine SO rfl ?_ | refine B7 ?_ | refine BD (by omega) ?_)
    all_goals exact no (by simp [KB,hv])
 ·refine F7 hge rfl (B7 ?_)
  have:i=os.length:=by omega
  subst this
  unfold CO at h
  rw [YB hP] at h;exact h
def HH (g s:Int):AE:=⟨true,g,s,1,0,1,MY,false⟩
def GH (os:List AE) (ss:List ByteArray) (s:ByteArray):List AE×List ByteArray×An:=
 if ¬(1≤(s.size:Int)∧(s.size:Int)≤8) then (os,ss,⟨2,0,[]⟩)
 else if CO os<0 then (os,ss,⟨3,0,[]⟩)
 else if at_ ss s<0∧6≤ss.length then (os,ss,⟨6,0,[]⟩)
 else (os.set (CO os).toNat (HH (w64 ((ob os (CO os).toNat).gen+1)) (if at_ ss s<0 then ss.length else at_ ss s)),(if at_ ss s<0 then ss++[s] else ss),⟨0,B2 (CO os) (w64 ((ob os (CO os).toNat).gen+1)),[]⟩)
theorem LV {os:List AE} (h: ¬CO os<0):(CO os).toNat<os.length∧CO os=((CO os).toNat:Int)∧KB os (CO os).toNat=true:=by
 rcases Q1 os.length (KB os) with ⟨h1,_⟩ | ⟨i,h1,h2,h3,_⟩
 ·unfold CO at h;omega
 ·have e:CO os=i:=h2
  have e2:(CO os).toNat=i:=by omega
  rw [e2];exact ⟨h1,e,h3⟩
theorem tH {l:List ByteArray} {x s:ByteArray} (h:x∉l):at_ (l++[x]) s=if x=s then (l.length:Int) else at_ l s:=by
 unfold at_
 by_cases hs:s∈l
 ·rw [if_pos (List.mem_append_left _ hs),if_pos hs,List.idxOf_append,if_pos hs,if_neg (show ¬x=s from fun he=>h (he ▸ hs))]
 ·by_cases hx:x=s
  ·rw [if_pos (by simp [hx]),if_pos hx,List.idxOf_append,if_neg hs]
   simp [hx]
  ·rw [if_neg (by simp [hs,Ne.symm hx]),if_neg hx,if_neg hs]
theorem VU {os:List AE} {b c:List T} {ss:List ByteArray} {s:ByteArray} {k1 k2 k3 k4:Int} {K:J2} (hol:os.length=8) (hss:LQ ss) (h:K [I (GH os ss s).2.2.code,I (GH os ss s).2.2.val] [tR tO (GH os ss s).1,tS (GH os ss s).2.1,tI (GH os ss s).2.2.freed]):cl2 ⟨Try.prog,w0⟩ 123 EO.sg [I k1,I k2,I k3,I k4, .string s] [tR tO os,b,c,tS ss] K:=by
 have hsl:=hss.len
 refine EO.cl2 ?_
 unfold EO.txt
 unfold GH at h
 refine iM (DB (G5 (AY (fun hb=> ?_) fun hb=> ?_)))
 ·rw [if_pos hb] at h
  exact h
 rw [if_neg hb] at h
 refine TV hol (A4 (AY (fun hf=> ?_) fun hf=> ?_))
 ·rw [if_pos hf] at h
  exact h
 rw [if_neg hf] at h
 obtain ⟨f1,f2,f3⟩:=LV hf
 refine BK (fun i=>[I (CO os),I (at_ (ss.take i) s),iv i,I k1,I k2,I k3,I k4, .string s,I 0,I 0]) (fun _=>[tR tO os,tS ss]) ss.length (fun i=>True) rfl rfl trivial (fun R i hi hP hR=> ?_)
 simp only [AN,AV,AK,AM,AU,AH,AL,AW,AO,AR,AS,AQ,AT,AP,BQ,BU,BY,BX,BZ,BW,BT,A7,BA,BB,A9,BC,A8]
 simp only [BT,vP,vX,xC]
 refine A4 (AY (fun hlt=> ?_) fun hge=> ?_)
 ·have hlt:i<ss.length:=by omega
  replace hR:=hR hlt trivial
  have hone:=hss.one i hlt
  rw [List.take_succ_eq_append_getElem hlt,PV hlt,tH hone] at hR
  refine BV (AG hlt (ldS hlt (RK (AY (fun he=> ?_) fun he=> ?_))))
  ·rw [if_pos he,List.length_take,Nat.min_eq_left hi] at hR
   exact BD (by omega) hR
  ·rw [if_neg he] at hR
   exact BD (by omega) hR
 ·have:i=ss.length:=by omega
  subst this
  rw [List.take_length]
  refine A4 ?_
  by_cases ha:at_ ss s<0
  ·by_cases h6:6≤ss.length
   ·rw [if_pos ⟨ha,h6⟩] at h
    repeat' (first | exact h | refine BH ?_ | refine PW (by first | with_reducible assumption | omega) ?_ | refine GC (by first | with_reducible assumption | omega) rfl ?_ | refine FQ (by first | with_reducible assumption | omega) ?_ | refine KO ?_)
    all_goals omega
   ·rw [if_neg (by omega),if_pos ha,if_pos ha] at h
    refine BH (BH (BH (PW ha (O7 (GC ha rfl (F9 (by omega) (BV (A4 (FQ ha (GN rfl (by omega) ?_))))))))))
    repeat' (first | refine IB ?_ | refine I4 ?_ | refine V3 (by omega) (by omega) ?_ | refine KC (by omega) (by decide) rfl ?_ | simp only [AN,AV,AK,AM,AU,AH,AL,AW,AO,AR,AS,AQ,AT,AP,BQ,BU,BY,BX,BZ,BW,BT,A7,BA,BB,A9,BC,A8])
    rw [←rR] at h
    exact S0 (y:=HH (w64 ((ob os (CO os).toNat).gen+1)) ss.length) (by omega) rfl (IP h)
  ·rw [if_neg (by omega),if_neg ha,if_neg ha] at h
   refine BH (BH (BH (VP ha (F7 ha rfl (B7 (BV (A4 (F9 (by omega) ?_))))))))
   repeat' (first | refine IB ?_ | refine I4 ?_ | refine V3 (by omega) (by omega) ?_ | refine KC (by omega) (by decide) rfl ?_ | simp only [AN,AV,AK,AM,AU,AH,AL,AW,AO,AR,AS,AQ,AT,AP,BQ,BU,BY,BX,BZ,BW,BT,A7,BA,BB,A9,BC,A8])
   exact S0 (y:=HH (w64 ((ob os (CO os).toNat).gen+1)) (at_ ss s)) (by omega) rfl (IP h)
def NS (r:List AE×List Int×List Int):List AE×List Int×An:=(r.1,r.2.1,⟨0,0,r.2.2⟩)
def FH (os:List AE) (buf:List Int) (kind id:Int):List AE×List Int×An:=
 if AA os id<0 then (os,buf,⟨1,0,[]⟩) else
 if kind=2 then
  if (ob os (AA os id).toNat).holds=20 then (os,buf,⟨4,0,[]⟩) else (DX (os.set (AA os id).toNat {ob os (AA os id).toNat with holds:=(ob os (AA os id).toNat).holds+1}) id,buf,⟨0,0,[]⟩)
 else if kind=5 then
  if (ob os (AA os id).toNat).roots=20 then (os,buf,⟨4,0,[]⟩) else (DX (os.set (AA os id).toNat {ob os (AA os id).toNat with roots:=(ob os (AA os id).toNat).roots+1}) id,buf,⟨0,0,[]⟩)
 else if kind=3 then
  if (ob os (AA os id).toNat).holds=0 then (os,buf,⟨5,0,[]⟩) else NS (EZ (os.set (AA os id).toNat {ob os (AA os id).toNat with holds:=(ob os (AA os id).toNat).holds-1}) buf [id])
 else
  if (ob os (AA os id).toNat).roots=0 then (os,buf,⟨5,0,[]⟩) else NS (EZ (os.set (AA os id).toNat {ob os (AA os id).toNat with roots:=(ob os (AA os id).toNat).roots-1}) buf [id])
theorem yE {os:List AE} {k:Nat} {v:Int} {K:List T→Prop} (hk:k<os.length) (h:K (tR tO (os.set k {ob os k with holds:=v}))):stc (tR tO os) [] (AB (iv k)*8+3) (I v) K:=by
 rw [←DG hk] at h;exact kY hk h
theorem zO {os:List AE} {k:Nat} {v:Int} {K:List T→Prop} (hk:k<os.length) (h:K (tR tO (os.set k {ob os k with roots:=v}))):stc (tR tO os) [] (AB (iv k)*8+4) (I v) K:=by
 rw [←DG hk] at h;exact SJ hk (by decide) rfl rfl h
theorem St.set {h:Hp} {os:List AE} (st:St h) (hl:os.length=h.AD.length) (ho: ∀o∈os,OF o):St {h with AD:=os}:=⟨by have:=st.ol;simp only;omega,st.wl,st.sl,st.bl,ho,st.ss,st.wf,st.bf⟩
theorem XB {h:Hp} {kind id b c:Int} {s:ByteArray} {K:J2} (st:St h) (hid:F64 id) (hkd:kind=2∨kind=3∨kind=5∨kind=6) (hr: ∀i,(0≤(ob h.AD i).holds∧(ob h.AD i).holds≤20)∧(0≤(ob h.AD i).roots∧(ob h.AD i).roots≤20)) (hK:K [I (FH h.AD h.buffer kind id).2.2.code,I (FH h.AD h.buffer kind id).2.2.val] [tR tO (FH h.AD h.buffer kind id).1,tR tW h.B6,tI (FH h.AD h.buffer kind id).2.1,tS h.sites,tI (FH h.AD h.buffer kind id).2.2.freed]):cl2 ⟨Try.prog,w0⟩ 124 FL.sg [I kind,I id,I b,I c, .string s] (trees h) K:=by
 refine FL.cl2 ?_
 unfold FL.txt
 obtain ⟨os,ws,buf,ss⟩:=h
 have hol:os.length=8:=st.ol
 have hof: ∀o∈os,OF o:=st.of
 simp only at hr hK
 simp only [trees]
 simp only [AN,AV,AK,AM,AU,AH,AL,AW,AO,AR,AS,AQ,AT,AP,BQ,BU,BY,BX,BZ,BW,BT,A7,BA,BB,A9,BC,A8]
 unfold FH at hK
 refine CL hid (by omega) (A4 (AY (fun hs=> ?_) fun hs=> ?_))
 ·rw [if_pos hs] at hK
  exact hK
 rw [if_neg hs] at hK
 have hkb:=BG (l:=os) (id:=id) (by omega)
 obtain ⟨k,hkk⟩: ∃k,(AA os id).toNat=k:=⟨_,rfl⟩
 have hkI:AA os id=(k:Int):=by omega
 rw [hkk] at hK hkb
 have hkl:k<os.length:=by omega
 have hrk:=hr k
 have ho:=hof _ (KF (l:=os) (i:=k) (by omega))
 obtain ⟨⟨r1,r2⟩,r3,r4⟩:=hrk
 rw [BQ,hkI]
 refine AG (by omega) (eE hkl (BV (BV ?_)))
 simp only [uL,uJ,u9,uS,uY,uV,u7]
 have gn: ∀{os':List AE} {K:J2},os'.length=os.length→(∀o∈os',OF o)→K [] [tR tO (DX os' id),tR tW ws,tI buf,tS ss]→cl2 ⟨Try.prog,w0⟩ 153 EK.sg [I id] [tR tO os',tR tW ws,tI buf,tS ss] K:=fun hl ho hk=>S7 (St.set st hl ho) hid hk
 have ls: ∀{os':List AE} {K:J2},os'.length=os.length→(∀o∈os',OF o)→K [] [tR tO (EZ os' buf [id]).1,tR tW ws,tI (EZ os' buf [id]).2.1,tS ss,tI (EZ os' buf [id]).2.2]→cl2 ⟨Try.prog,w0⟩ 154 FB.sg [] [tR tO os',tR tW ws,tI buf,tS ss,tI [id]] K:=fun hl ho hk=>S9 (St.set st hl ho) (by simp) (by simpa using hid) hk
 rcases hkd with rfl | rfl | rfl | rfl
 ·simp only [if_true] at hK
  by_cases h20:(ob os k).holds=20
  ·rw [if_pos h20] at hK
   repeat' (first | refine BH ?_ | refine GO ?_ | refine GC (by first | with_reducible assumption | omega) rfl ?_ | refine FQ (by first | with_reducible assumption | omega) ?_ | refine KO ?_ | refine BM ?_ | simp only [AN,AV,AK,AM,AU,AH,AL,AW,AO,AR,AS,AQ,AT,AP,BQ,BU,BY,BX,BZ,BW,BT,A7,BA,BB,A9,BC,A8])
   exact hK
  ·rw [if_neg h20] at hK
   repeat' (first | refine BV ?_ | refine BH ?_ | refine GO ?_ | refine GF ?_ | refine GC (by first | with_reducible assumption | omega) rfl ?_ | refine F7 (by first | with_reducible assumption | omega) rfl ?_ | refine CU ?_ | refine B7 ?_ | refine F9 (by first | with_reducible assumption | omega) ?_ | refine KO ?_ | refine BM ?_ | refine EB ⟨by omega,by omega⟩ ?_ | refine AG (by omega) ?_ | simp only [AN,AV,AK,AM,AU,AH,AL,AW,AO,AR,AS,AQ,AT,AP,BQ,BU,BY,BX,BZ,BW,BT,A7,BA,BB,A9,BC,A8])
   exact yE hkl (gn (by simp) (LX hof ⟨ho.gen,ho.len,ho.fld⟩) hK)
 ·simp only [if_neg (show ¬(3:Int)=2 by decide),if_neg (show ¬(3:Int)=5 by decide),if_true] at hK
  by_cases h20:(ob os k).holds=0
  ·rw [if_pos h20] at hK
   repeat' (first | refine BV ?_ | refine BH ?_ | refine GO ?_ | refine GF ?_ | refine GC (by first | with_reducible assumption | omega) rfl ?_ | refine F7 (by first | with_reducible assumption | omega) rfl ?_ | refine B7 ?_ | refine FQ (by first | with_reducible assumption | omega) ?_ | refine A4 ?_ | refine BM ?_ | simp only [AN,AV,AK,AM,AU,AH,AL,AW,AO,AR,AS,AQ,AT,AP,BQ,BU,BY,BX,BZ,BW,BT,A7,BA,BB,A9,BC,A8])
   exact hK
  ·rw [if_neg h20] at hK
   repeat' (first | refine BV ?_ | refine BH ?_ | refine GO ?_ | refine GF ?_ | refine GC (by first | with_reducible assumption | omega) rfl ?_ | refine F7 (by first | with_reducible assumption | omega) rfl ?_ | refine CU ?_ | refine B7 ?_ | refine F9 (by first | with_reducible assumption | omega) ?_ | refine A4 ?_ | refine BM ?_ | refine EB ⟨by omega,by omega⟩ ?_ | refine AG (by omega) ?_ | simp only [AN,AV,AK,AM,AU,AH,AL,AW,AO,AR,AS,AQ,AT,AP,BQ,BU,BY,BX,BZ,BW,BT,A7,BA,BB,A9,BC,A8])
   exact yE hkl (ls (by simp) (LX hof ⟨ho.gen,ho.len,ho.fld⟩) hK)
 ·simp only [if_neg (show ¬(5:Int)=2 by decide),if_true] at hK
  by_cases h20:(ob os k).roots=20
  ·rw [if_pos h20] at hK
   repeat' (first | refine BH ?_ | refine GO ?_ | refine GF ?_ | refine GC (by first | with_reducible assumption | omega) rfl ?_ | refine F7 (by first | with_reducible assumption | omega) rfl ?_ | refine B7 ?_ | refine FQ (by first | with_reducible assumption | omega) ?_ | refine KO ?_ | refine BM ?_ | simp only [AN,AV,AK,AM,AU,AH,AL,AW,AO,AR,AS,AQ,AT,AP,BQ,BU,BY,BX,BZ,BW,BT,A7,BA,BB,A9,BC,A8])
   exact hK
  ·rw [if_neg h20] at hK
   repeat' (first | refine BV ?_ | refine BH ?_ | refine GO ?_ | refine GF ?_ | refine GC (by first | with_reducible assumption | omega) rfl ?_ | refine F7 (by first | with_reducible assumption | omega) rfl ?_ | refine CU ?_ | refine B7 ?_ | refine F9 (by first | with_reducible assumption | omega) ?_ | refine KO ?_ | refine BM ?_ | refine EB ⟨by omega,by omega⟩ ?_ | refine AG (by omega) ?_ | simp only [AN,AV,AK,AM,AU,AH,AL,AW,AO,AR,AS,AQ,AT,AP,BQ,BU,BY,BX,BZ,BW,BT,A7,BA,BB,A9,BC,A8])
   exact zO hkl (gn (by simp) (LX hof ⟨ho.gen,ho.len,ho.fld⟩) hK)
 ·simp only [if_neg (show ¬(6:Int)=2 by decide),if_neg (show ¬(6:Int)=5 by decide),if_neg (show ¬(6:Int)=3 by decide)] at hK
  by_cases h20:(ob os k).roots=0
  ·rw [if_pos h20] at hK
   repeat' (first | refine BV ?_ | refine BH ?_ | refine GO ?_ | refine GF ?_ | refine GC (by first | with_reducible assumption | omega) rfl ?_ | refine F7 (by first | with_reducible assumption | omega) rfl ?_ | refine B7 ?_ | refine FQ (by first | with_reducible assumption | omega) ?_ | refine A4 ?_ | refine BM ?_ | simp only [AN,AV,AK,AM,AU,AH,AL,AW,AO,AR,AS,AQ,AT,AP,BQ,BU,BY,BX,BZ,BW,BT,A7,BA,BB,A9,BC,A8])
   exact hK
  ·rw [if_neg h20] at hK
   repeat' (first | refine BV ?_ | refine BH ?_ | refine GO ?_ | refine GF ?_ | refine GC (by first | with_reducible assumption | omega) rfl ?_ | refine F7 (by first | with_reducible assumption | omega) rfl ?_ | refine B7 ?_ | refine F9 (by first | with_reducible assumption | omega) ?_ | refine A4 ?_ | refine BM ?_ | refine EB ⟨by omega,by omega⟩ ?_ | refine AG (by omega) ?_ | simp only [AN,AV,AK,AM,AU,AH,AL,AW,AO,AR,AS,AQ,AT,AP,BQ,BU,BY,BX,BZ,BW,BT,A7,BA,BB,A9,BC,A8])
   exact zO hkl (ls (by simp) (LX hof ⟨ho.gen,ho.len,ho.fld⟩) hK)
end Go.Proofs.Ytklmcfpgdfibnaa.P
namespace Go.Proofs.Ytklmcfpgdfibnaa.P
open Go Go.Proofs.Ytklmcfpgdfibnaa Go.Proofs.Ytklmcfpgdfibnaa.Eng
set_option linter.unusedVariables false
set_option maxHeartbeats 4000000
set_option linter.unusedVariables false
set_option linter.unusedSimpArgs false
attribute [local irreducible] prP gP gE gF AJ ixW ldc ldg ldl stc stg scW mkW apW A6 cl2 BF CM CB
variable {w0:World}
def HJ (os:List AE) (buf:List Int) (a b c:Int):List AE×List Int×An:=
 if AA os a<0∨(c≠ -1∧AA os c<0) then (os,buf,⟨1,0,[]⟩) else
 if ¬(0≤b∧b≤2) then (os,buf,⟨2,0,[]⟩) else
 if gI (ob os (AA os a).toNat).field b.toNat= -1 then
  ((DX os c).set (AA os a).toNat {ob (DX os c) (AA os a).toNat with field:=(ob os (AA os a).toNat).field.set b.toNat c},buf,⟨0,0,[]⟩)
 else NS (EZ ((DX os c).set (AA os a).toNat {ob (DX os c) (AA os a).toNat with field:=(ob os (AA os a).toNat).field.set b.toNat c}) buf [gI (ob os (AA os a).toNat).field b.toNat])
theorem DS {l:List AE} {i k:Nat} {o:AE} (hk:k<l.length):ob (l.set k o) i=if i=k then o else ob l i:=by
 unfold ob
 by_cases h:i=k
 ·subst h
  rw [if_pos rfl,List.getD_eq_getElem?_getD,List.getElem?_set_self hk];rfl
 ·rw [if_neg h,List.getD_eq_getElem?_getD,List.getElem?_set_ne (Ne.symm h),List.getD_eq_getElem?_getD]
theorem cE {os:List AE} {id:Int} {i:Nat}:(ob (DX os id) i).live=(ob os i).live∧(ob (DX os id) i).gen=(ob os i).gen∧(ob (DX os id) i).site=(ob os i).site∧(ob (DX os id) i).holds=(ob os i).holds∧(ob (DX os id) i).roots=(ob os i).roots∧(ob (DX os id) i).field=(ob os i).field∧(ob (DX os id) i).purple=(ob os i).purple:=by
 unfold DX
 split
 ·exact ⟨rfl,rfl,rfl,rfl,rfl,rfl,rfl⟩
 ·have hk:=BG (l:=os) (id:=id) (by omega)
  rw [DS (by omega)]
  split
  ·rename_i h;subst h;exact ⟨rfl,rfl,rfl,rfl,rfl,rfl,rfl⟩
  ·exact ⟨rfl,rfl,rfl,rfl,rfl,rfl,rfl⟩
theorem stF {os:List AE} {k j:Nat} {v:Int} {K:List T→Prop} (hk:k<os.length) (hj:j<(ob os k).field.length) (h:K (tR tO (os.set k {ob os k with field:=(ob os k).field.set j v}))):stc (tR tO os) [AB (iv k)*8+6] (AB (iv j)*1) (I v) K:=by
 rw [←DG hk] at h hj;exact kT hk hj h
theorem OF.put {o:AE} {m:List Int} (h:OF o) (hl:m.length=3) (hf: ∀x∈m,F64 x):OF {o with field:=m}:=⟨h.gen,hl,hf⟩
theorem V1 {h:Hp} {a0 a1 a2 a3:Int} {s:ByteArray} {K:J2} (st:St h) (h1:F64 a1) (h3:F64 a3) (hfd: ∀i, ∀f∈(ob h.AD i).field,f= -1∨0≤f) (hK:K [I (HJ h.AD h.buffer a1 a2 a3).2.2.code,I (HJ h.AD h.buffer a1 a2 a3).2.2.val] [tR tO (HJ h.AD h.buffer a1 a2 a3).1,tR tW h.B6,tI (HJ h.AD h.buffer a1 a2 a3).2.1,tS h.sites,tI (HJ h.AD h.buffer a1 a2 a3).2.2.freed]):cl2 ⟨Try.prog,w0⟩ 125 ES.sg [I a0,I a1,I a2,I a3, .string s] (trees h) K:=by
 refine ES.cl2 ?_
 unfold ES.txt
 obtain ⟨os,ws,buf,ss⟩:=h
 have hol:os.length=8:=st.ol
 have hof: ∀o∈os,OF o:=st.of
 simp only at hK hfd
 simp only [trees]
 unfold HJ at hK
 have gn: ∀{K:J2},K [] [tR tO (DX os a3),tR tW ws,tI buf,tS ss]→cl2 ⟨Try.prog,w0⟩ 153 EK.sg [I a3] [tR tO os,tR tW ws,tI buf,tS ss] K:=fun hk=>S7 st h3 hk
 have ls: ∀{os':List AE} {x:Int} {K:J2},os'.length=os.length→(∀o∈os',OF o)→F64 x→K [] [tR tO (EZ os' buf [x]).1,tR tW ws,tI (EZ os' buf [x]).2.1,tS ss,tI (EZ os' buf [x]).2.2]→cl2 ⟨Try.prog,w0⟩ 154 FB.sg [] [tR tO os',tR tW ws,tI buf,tS ss,tI [x]] K:=fun hl ho hx hk=>S9 (St.set st hl ho) (by simp) (by simpa using hx) hk
 refine CL h1 (by omega) ?_
 by_cases hs:AA os a1<0
 ·rw [if_pos (.inl hs)] at hK
  repeat' (first | exact hK | refine BH ?_ | refine Af ?_ | refine fK (by first | with_reducible assumption | omega) ?_ | refine TD (by first | with_reducible assumption | omega) ?_ | refine GC (by first | with_reducible assumption | omega) rfl ?_ | refine CU ?_ | refine A4 ?_)
 have hkb:=BG (l:=os) (id:=a1) (by omega)
 by_cases hc:a3≠ -1∧AA os a3<0
 ·obtain ⟨hc1,hc2⟩:=hc
  rw [if_pos (.inr ⟨hc1,hc2⟩)] at hK
  repeat' (first | refine CL h3 (by omega) ?_ | exact hK | refine BH ?_ | refine b7 ?_ | refine Z6 (by first | with_reducible assumption | omega) ?_ | refine PW (by first | with_reducible assumption | omega) ?_ | refine G6 (by first | with_reducible assumption | omega) ?_ | refine GC (by first | with_reducible assumption | omega) rfl ?_ | refine F7 (by first | with_reducible assumption | omega) rfl ?_ | refine FQ (by first | with_reducible assumption | omega) ?_ | refine A4 ?_ | refine C0 ?_)
 rw [if_neg (by omega)] at hK
 by_cases hb2: ¬(0≤a2∧a2≤2)
 ·rw [if_pos hb2] at hK
  repeat' (first | refine CL h3 (by omega) ?_ | refine DB ?_ | exact hK | refine BH ?_ | refine b7 ?_ | refine Z6 (by first | with_reducible assumption | omega) ?_ | refine PW (by first | with_reducible assumption | omega) ?_ | refine VP (by first | with_reducible assumption | omega) ?_ | refine G6 (by first | with_reducible assumption | omega) ?_ | refine GC (by first | with_reducible assumption | omega) rfl ?_ | refine F7 (by first | with_reducible assumption | omega) rfl ?_ | refine B7 ?_ | refine FQ (by first | with_reducible assumption | omega) ?_ | refine F9 (by first | with_reducible assumption | omega) ?_ | refine A4 ?_ | refine C0 ?_ | refine G5 ?_ | refine NV (fun _=> ?_) (fun _=> ?_))
 rw [if_neg hb2] at hK
 obtain ⟨k,hkk⟩: ∃k,(AA os a1).toNat=k:=⟨_,rfl⟩
 have hkI:AA os a1=(k:Int):=by omega
 rw [hkk] at hK hkb
 obtain ⟨j,rfl⟩: ∃j:Nat,a2=j:=⟨a2.toNat,by omega⟩
 rw [Int.toNat_natCast] at hK
 have hkl:k<os.length:=by omega
 have ho:=hof _ (KF (l:=os) (i:=k) (by omega))
 obtain ⟨_,_,_,_,_,gf,_⟩:=cE (os:=os) (id:=a3) (i:=k)
 have gl:=YW os a3
 have gof:=oL (id:=a3) hof
 have jl:j<(ob os k).field.length:=by rw [ho.len];omega
 have hold:=hfd k _ (ER jl)
 rw [hkI]
 repeat' (first | refine CL h3 (by omega) ?_ | refine DB ?_ | refine BH ?_ | refine b7 ?_ | refine pO ?_ | refine cF ?_ | refine PW (by first | with_reducible assumption | omega) ?_ | refine VP (by first | with_reducible assumption | omega) ?_ | refine GC (by first | with_reducible assumption | omega) rfl ?_ | refine F7 (by first | with_reducible assumption | omega) rfl ?_ | refine B7 ?_ | refine F9 (by first | with_reducible assumption | omega) ?_ | refine A4 ?_ | refine C0 ?_ | refine G5 ?_ | refine AG (by omega) ?_ | refine dT (by omega) ?_ | refine NV (fun _=> ?_) (fun _=> ?_) | simp only [AN,AV,AK,AM,AU,AH,AL,AW,AO,AR,AS,AQ,AT,AP,BQ,BU,BY,BX,BZ,BW,BT,A7,BA,BB,A9,BC,A8])
 all_goals
  refine AG (by rw [KY (by omega),AH];exact jl) (QO (by omega) jl (BV ?_))
  simp only [AN,AV,AK,AM,AU,AH,AL,AW,AO,AR,AS,AQ,AT,AP,BQ,BU,BY,BX,BZ,BW,BT,A7,BA,BB,A9,BC,A8]
  refine O7 (AY (fun hge=>gn ?_) fun hlt=> ?_)
  ·simp only [AN,AV,AK,AM,AU,AH,AL,AW,AO,AR,AS,AQ,AT,AP,BQ,BU,BY,BX,BZ,BW,BT,A7,BA,BB,A9,BC,A8]
   refine AG (by omega) (QD (f:=tO) (i:=k) (by omega) (by decide) rfl ?_)
   refine AG (by rw [KY (by omega),AH,gf];exact jl) (stF (by omega) (by rw [gf];exact jl) ?_)
   rw [gf]
   refine A4 (AY (fun he=> ?_) fun he=> ?_)
   ·rw [if_pos (by omega)] at hK;exact hK
   ·rw [if_neg (by omega)] at hK
    exact ls (by simpa using gl) (LX gof (OF.put (gof _ (KF (by omega))) (by rw [List.length_set];exact ho.len) fun x hx=>(List.mem_or_eq_of_mem_set hx).elim (ho.fld x) fun he=>he ▸ h3)) (ho.fld _ (ER jl)) hK
  ·have e0:DX os a3=os:=by unfold DX;rw [if_pos];rw [G8 (by omega)];decide
   rw [e0] at hK
   refine AG (by omega) (QD (f:=tO) (i:=k) (by omega) (by decide) rfl ?_)
   refine AG (by rw [KY (by omega),AH];exact jl) (stF (by omega) jl ?_)
   refine A4 (AY (fun he=> ?_) fun he=> ?_)
   ·rw [if_pos (by omega)] at hK;exact hK
   ·rw [if_neg (by omega)] at hK
    exact ls (by simp) (LX hof (OF.put ho (by rw [List.length_set];exact ho.len) fun x hx=>(List.mem_or_eq_of_mem_set hx).elim (ho.fld x) fun he=>he ▸ h3)) (ho.fld _ (ER jl)) hK
def MR (os:List AE) (ws:List Wk) (id:Int):List Wk×An:=
 if AA os id<0 then (ws,⟨1,0,[]⟩) else if JK ws<0 then (ws,⟨3,0,[]⟩) else (ws.set (JK ws).toNat ⟨true,id⟩,⟨0,JK ws,[]⟩)
def HW (os:List AE) (ws:List Wk) (kind k:Int):List Wk×An:=
 if ¬(0≤k∧k≤(ws.length:Int)-1) then (ws,⟨2,0,[]⟩) else
 if (wk ws k.toNat).used=false then (ws,⟨2,0,[]⟩) else
 if kind=9 then (ws.set k.toNat ⟨false,0⟩,⟨0,0,[]⟩) else
 if AA os (wk ws k.toNat).target<0 then (ws,⟨0, -1,[]⟩) else (ws,⟨0,(wk ws k.toNat).target,[]⟩)
theorem XX {ws:List Wk} (h: ¬JK ws<0):(JK ws).toNat<ws.length∧JK ws=((JK ws).toNat:Int)∧(wk ws (JK ws).toNat).used=false:=by
 rcases Q1 ws.length (fun i=> !(wk ws i).used) with ⟨h1,_⟩ | ⟨i,h1,h2,h3,_⟩
 ·unfold JK at h;omega
 ·have e:JK ws=i:=h2
  have e2:(JK ws).toNat=i:=by omega
  rw [e2];exact ⟨h1,e,by simpa using h3⟩
theorem XF {os:List AE} {ws:List Wk} {cc d:List T} {kind k b c:Int} {s:ByteArray} {K:J2} (hol:os.length=8) (hwl:ws.length=8) (hk:F64 k) (hwf: ∀w∈ws,F64 w.target) (h7:kind=7→K [I (MR os ws k).2.code,I (MR os ws k).2.val] [tR tW (MR os ws k).1,tI (MR os ws k).2.freed]) (h:kind≠7→K [I (HW os ws kind k).2.code,I (HW os ws kind k).2.val] [tR tW (HW os ws kind k).1,tI (HW os ws kind k).2.freed]):cl2 ⟨Try.prog,w0⟩ 126 FU.sg [I kind,I k,I b,I c, .string s] [tR tO os,tR tW ws,cc,d] K:=by
 refine FU.cl2 ?_
 unfold FU.txt
 simp only [AN,AV,AK,AM,AU,AH,AL,AW,AO,AR,AS,AQ,AT,AP,BQ,BU,BY,BX,BZ,BW,BT,A7,BA,BB,A9,BC,A8]
 refine BM (AY (fun he=> ?_) fun he=> ?_)
 ·replace h:=h7 he
  clear h7
  unfold MR at h
  refine CL hk (by omega) (A4 (AY (fun hs=> ?_) fun hs=> ?_))
  ·rw [if_pos hs] at h;exact h
  rw [if_neg hs] at h
  refine BK (fun i=>[iv i,I kind,I k,I b,I c, .string s,I 0,I 0]) (fun _=>[tR tW ws]) ws.length (fun i=> ∀j,j<i→(!(wk ws j).used)=false) rfl rfl (fun k hk=>by omega) (fun R i hi hP hR=> ?_)
  simp only [AN,AV,AK,AM,AU,AH,AL,AW,AO,AR,AS,AQ,AT,AP,BQ,BU,BY,BX,BZ,BW,BT,A7,BA,BB,A9,BC,A8]
  refine A4 (AY (fun hlt=> ?_) fun hge=> ?_)
  ·have hlt:i<ws.length:=by omega
   cases hv:(wk ws i).used with
   | false=>
     refine AG hlt (T5 (v:= .bool false) hlt (by simp [tW,hv]) (EJ (CU (AG hlt ?_))))
     unfold JK at h
     rw [TF hlt (by rw [hv];rfl) hP,if_neg (by omega),Int.toNat_natCast] at h
     exact S0 (f:=tW) hlt (y:=⟨true,k⟩) rfl h
   | true=>
     refine AG hlt (T5 (v:= .bool true) hlt (by simp [tW,hv]) (EJ (B7 (BD (by omega) (hR hlt fun k hk=> ?_)))))
     rcases Nat.lt_succ_iff_lt_or_eq.1 hk with h3 | rfl
     ·exact hP k h3
     ·rw [hv];rfl
  ·have:i=ws.length:=by omega
   subst this
   unfold JK at h
   rw [YB hP,if_pos (by decide)] at h;exact h
 ·replace h:=h he
  clear h7
  unfold HW at h
  refine F8 ⟨by omega,by omega⟩ (DB (G5 ?_))
  by_cases hb: ¬(0≤k∧k≤(ws.length:Int)-1)
  ·rw [if_pos hb] at h
   repeat' (first | exact h | refine BH ?_ | refine TD (by first | with_reducible assumption | omega) ?_ | refine GC (by first | with_reducible assumption | omega) rfl ?_ | refine CU ?_)
  rw [if_neg hb] at h
  obtain ⟨j,rfl⟩: ∃j:Nat,k=j:=⟨k.toNat,by omega⟩
  rw [Int.toNat_natCast] at h
  have jl:j<ws.length:=by omega
  have hw:=hwf _ (List.getElem_mem jl)
  rw [dG jl] at hw
  cases hu:(wk ws j).used with
  | false=>
    rw [if_pos hu] at h
    repeat' (first | refine T5 (v:= .bool false) jl (by simp [tW,hu]) ?_ | exact h | refine BH ?_ | refine G6 (by first | with_reducible assumption | omega) ?_ | refine F7 (by first | with_reducible assumption | omega) rfl ?_ | refine CU ?_ | refine AG (by omega) ?_ | refine EJ ?_)
  | true=>
    rw [if_neg (by rw [hu];decide)] at h
    repeat' (first | refine T5 (v:= .bool true) jl (by simp [tW,hu]) ?_ | refine CL hw (by omega) ?_ | refine BH ?_ | refine G6 (by first | with_reducible assumption | omega) ?_ | refine F7 (by first | with_reducible assumption | omega) rfl ?_ | refine B7 ?_ | refine A4 ?_ | refine BM ?_ | refine AG (by omega) ?_ | refine w7 (by omega) (by decide) rfl ?_ | refine AY (fun _=> ?_) (fun _=> ?_) | refine EJ ?_)
    ·rename_i hh
     rw [if_pos hh] at h
     exact S0 (f:=tW) jl (y:=⟨false,0⟩) rfl h
    ·rename_i hh hs
     rw [if_neg hh,if_pos hs] at h
     exact h
    ·rename_i hh hs
     rw [if_neg hh,if_neg hs] at h
     exact h
end Go.Proofs.Ytklmcfpgdfibnaa.P
namespace Go.Proofs.Ytklmcfpgdfibnaa.P
open Go Go.Proofs.Ytklmcfpgdfibnaa Go.Proofs.Ytklmcfpgdfibnaa.Eng
set_option linter.unusedVariables false
theorem qP (n:Int):w64 n=(n+9223372036854775808) % 18446744073709551616-9223372036854775808:=by
 simp only [w64,IntKind.wrap,IntKind.bits,IntKind.signed]
 simp
 split <;> omega
theorem LP (a b:Int):w64 (w64 a+b)=w64 (a+b):=by simp only [qP];omega
theorem oF (a:Int):F64 (w64 a):=by rw [qP];exact ⟨by omega,by omega⟩
def FR:Nat→(Nat→Int)→Int
 | 0,_=>0
 | n+1,f=>FR n f+f n
theorem JZ {n:Nat} {f g:Nat→Int} (h: ∀k,k<n→f k=g k):FR n f=FR n g:=by
 induction n with
 | zero=>rfl
 | succ n ih=>simp only [FR];rw [ih fun k hk=>h k (by omega),h n (by omega)]
theorem SG {n k0:Nat} {f g:Nat→Int} (hk:k0<n) (h: ∀k,k<n→k≠k0→f k=g k):FR n g=FR n f+(g k0-f k0):=by
 induction n with
 | zero=>omega
 | succ n ih=>
   simp only [FR]
   by_cases he:k0=n
   ·subst he
    rw [JZ (g:=g) fun k hk=>h k (by omega) (by omega)];omega
   ·rw [ih (by omega) fun k hk hne=>h k (by omega) hne,h n (by omega) (by omega)];omega
theorem kM {n:Nat} {f g:Nat→Int}:FR n (fun k=>f k+g k)=FR n f+FR n g:=by
 induction n with
 | zero=>rfl
 | succ n ih=>simp only [FR,ih];omega
theorem IK {n:Nat} {f:Nat→Int} (h: ∀k,k<n→f k=0):FR n f=0:=by
 induction n with
 | zero=>rfl
 | succ n ih=>simp only [FR];rw [ih fun k hk=>h k (by omega),h n (by omega)];rfl
theorem J1 {n:Nat} {f g:Nat→Int} (h: ∀k,k<n→f k≤g k):FR n f≤FR n g:=by
 induction n with
 | zero=>exact Int.le_refl _
 | succ n ih=>simp only [FR];have:=ih fun k hk=>h k (by omega);have:=h n (by omega);omega
theorem ET {l:List Int} {i k:Nat} {v:Int} (hk:k<l.length):gI (l.set k v) i=if i=k then v else gI l i:=by
 unfold gI
 by_cases h:i=k
 ·subst h
  rw [if_pos rfl,List.getD_eq_getElem?_getD,List.getElem?_set_self hk];rfl
 ·rw [if_neg h,List.getD_eq_getElem?_getD,List.getElem?_set_ne (Ne.symm h),List.getD_eq_getElem?_getD]
def BE (os:List AE) (k:Nat):List Int:=((ob os k).field.map (AA os)).filter fun x=>decide (0≤x)
def E (os:List AE) (k i:Nat):Int:=((BE os k).count (i:Int):Nat)
theorem B5 {os:List AE} {k:Nat} {x:Int} (h:x∈BE os k):0≤x∧x.toNat<8∧x=(x.toNat:Int)∧os.length=8∧(ob os x.toNat).live=true:=by
 obtain ⟨h1,h2⟩:=List.mem_filter.1 h
 obtain ⟨f,_,rfl⟩:=List.mem_map.1 h1
 have h2:0≤AA os f:=by simpa using h2
 have:=BG h2
 exact ⟨h2,this.2.2.2.1,by omega,this.1,this.2.2.2.2.1⟩
theorem RV {os:List AE} (hof: ∀o∈os,OF o) {k:Nat} (hk:k<os.length):(BE os k).length≤3:=by
 have:=List.length_filter_le (fun x=>decide (0≤x)) ((ob os k).field.map (AA os))
 rw [List.length_map,(hof _ (KF hk)).len] at this
 exact this
theorem N9 (os:List AE) (k i:Nat):0≤E os k i:=Int.natCast_nonneg _
theorem wO {os:List AE} {k i:Nat} (h:(i:Int)∉BE os k):E os k i=0:=by
 unfold E;rw [List.count_eq_zero.2 h];rfl
inductive Reach (os:List AE) (s:Nat):Nat→Prop
 | refl:Reach os s s
 | step {k:Nat} {j:Int}:Reach os s k→j∈BE os k→Reach os s j.toNat
theorem Reach.trans {os:List AE} {a b c:Nat} (h:Reach os a b) (g:Reach os b c):Reach os a c:=by
 induction g with
 | refl=>exact h
 | step _ hj ih=>exact .step ih hj
theorem Reach.closed {os:List AE} {P:Nat→Prop} {s k:Nat} (h:Reach os s k) (hs:P s) (hc: ∀k,P k→ ∀j∈BE os k,P j.toNat):P k:=by
 induction h with
 | refl=>exact hs
 | step _ hj ih=>exact hc _ ih _ hj
theorem Reach.lt {os:List AE} {s k:Nat} (h:Reach os s k) (hs:s<8):k<8:=h.closed (P:=fun k=>k<8) hs fun _ _ _ hj=>(B5 hj).2.1
def S (os:List AE) (P:Nat→Bool) (i:Nat):Int:=FR 8 fun k=>if P k then E os k i else 0
theorem jU {os:List AE} {P Q:Nat→Bool} {i:Nat} (h: ∀k,k<8→P k=Q k):S os P i=S os Q i:=JZ fun k hk=>by rw [h k hk]
theorem m7 {os:List AE} {P Q:Nat→Bool} {i k0:Nat} (hk:k0<8) (h0:P k0=false) (h1:Q k0=true) (h: ∀k,k<8→k≠k0→P k=Q k):S os Q i=S os P i+E os k0 i:=by
 unfold S
 rw [SG (n:=8) (f:=fun k=>if P k then E os k i else 0) (g:=fun k=>if Q k then E os k i else 0) hk fun k hk hne=>by rw [h k hk hne]]
 simp only [h0,h1];simp
theorem ZR {os:List AE} {P:Nat→Bool} {i:Nat}:S os P i+S os (fun k=> !P k) i=S os (fun _=>true) i:=by
 unfold S
 rw [←kM]
 refine JZ fun k hk=> ?_
 cases h:P k <;> simp [h]
def isC (col:List Int) (c:Int) (k:Nat):Bool:=decide (gI col k=c)
theorem PC {col:List Int} {c:Int} {k s:Nat} (hs:s<col.length):isC (col.set s c) c k=(decide (k=s)||isC col c k):=by
 unfold isC
 rw [ET hs]
 by_cases h:k=s
 ·simp [h]
 ·simp [h]
def J3 (col:List Int) (c:Int):Nat:=(FR 8 fun k=>if isC col c k then 0 else 1).toNat
theorem jK {a b:List Int} {c:Int} (h: ∀k,k<8→gI a k=c→gI b k=c):J3 b c≤J3 a c:=by
 have:FR 8 (fun k=>if isC b c k then 0 else 1)≤FR 8 (fun k=>if isC a c k then 0 else 1):=J1 fun k hk=>by
  by_cases h1:gI a k=c
  ·simp [isC,h1,h k hk h1]
  ·by_cases h3:gI b k=c <;> simp [isC,h1,h3]
 unfold J3;omega
theorem QZ {a b:List Int} {c:Int} {s:Nat} (hs:s<8) (h0:gI a s≠c) (h1:gI b s=c) (h: ∀k,k<8→gI a k=c→gI b k=c):J3 b c<J3 a c:=by
 have hle:FR 8 (fun k=>if isC b c k then 0 else 1)≤FR 8 (fun k=>if isC a c k∨k=s then 0 else 1):=J1 fun k hk=>by
  by_cases h2:gI a k=c
  ·simp [isC,h2,h k hk h2]
  ·by_cases hks:k=s
   ·subst hks;simp [isC,h1]
   ·by_cases h3:gI b k=c <;> simp [isC,h2,h3,hks]
 have hu:=SG (n:=8) (k0:=s) (f:=fun k=>if isC a c k∨k=s then (0:Int) else 1) (g:=fun k=>if isC a c k then (0:Int) else 1) hs fun k hk hne=>by simp [hne]
 have e1:isC a c s=false:=by simp [isC,h0]
 simp only [e1,or_true,if_true] at hu
 have h3:0≤FR 8 (fun k=>if isC b c k then (0:Int) else 1):=by
  have:=J1 (n:=8) (f:=fun _=>0) (g:=fun k=>if isC b c k then (0:Int) else 1) fun k hk=>by split <;> simp
  rw [IK (fun _ _=>rfl)] at this;exact this
 simp only [Bool.false_eq_true,if_false] at hu
 unfold J3;omega
theorem m1 (col:List Int) (c:Int):J3 col c≤8:=by
 have:FR 8 (fun k=>if isC col c k then (0:Int) else 1)≤FR 8 (fun _=>1):=J1 fun k hk=>by split <;> simp
 have e:FR 8 (fun _=>(1:Int))=8:=rfl
 unfold J3;omega
structure LZ (os:List AE) (c m:Int) (cs col cs' col':List Int) (s:Nat):Prop where
 len:cs'.length=8∧col'.length=8
 f: ∀i,i<8→F64 (gI cs' i)
 IX: ∀k,k<8→gI col k=c→gI col' k=c
 only: ∀k,k<8→gI col' k≠c→gI col' k=gI col k
 got:gI col' s=c
 clo: ∀k,k<8→gI col' k=c→gI col k≠c→Reach os s k∧ ∀j∈BE os k,gI col' j.toNat=c
 cnt: ∀i,i<8→gI cs' i=w64 (gI cs i+m*(S os (isC col' c) i-S os (isC col c) i))
theorem LZ.refl {os:List AE} {c m:Int} {cs col:List Int} {s:Nat} (h1:cs.length=8) (h2:col.length=8) (hf: ∀i,i<8→F64 (gI cs i)) (hs:gI col s=c):LZ os c m cs col cs col s:=
 ⟨⟨h1,h2⟩,hf,fun _ _ h=>h,fun _ _ _=>rfl,hs,fun _ _ h1 h2=>absurd h1 h2,fun i hi=>by rw [Int.sub_self,Int.mul_zero,Int.add_zero,H4 (hf i hi)]⟩
end Go.Proofs.Ytklmcfpgdfibnaa.P
