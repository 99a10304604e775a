/- A part of the proof. -/
import Derived.Test.YtklmcfpgdfibnaaReHpI
namespace Go.Proofs.Ytklmcfpgdfibnaa.P
open Go Go.Proofs.Ytklmcfpgdfibnaa Go.Proofs.Ytklmcfpgdfibnaa.Eng
set_option linter.unusedVariables false
set_option maxHeartbeats 4000000
set_option linter.unusedVariables false
set_option linter.unusedSimpArgs false
attribute [local irreducible] prP gP gE gF AY ixW ldc ldg ldl stc stg scW mkW apW BD cl2 BQ CZ B9
variable {w0:World}
def MW (n:Nat) (p:Nat→Bool):Int:=match (List.range n).find? p with
 | some i=>(i:Int)
 | none=> -1
theorem TW {n i:Nat} {p:Nat→Bool} (hi:i<n) (h:p i=true) (hb: ∀k,k<i→p k=false):MW n p=i:=by
 have:(List.range n).find? p=some i:=List.find?_range_eq_some.2 ⟨h,List.mem_range.2 hi,fun j hj=>by rw [hb j hj];rfl⟩
 rw [MW,this]
theorem YM {n:Nat} {p:Nat→Bool} (hb: ∀k,k<n→p k=false):MW n p= -1:=by
 have:(List.range n).find? p=none:=List.find?_range_eq_none.2 fun j hj=>by rw [hb j hj];rfl
 rw [MW,this]
theorem SA (n:Nat) (p:Nat→Bool):(MW n p= -1∧ ∀k,k<n→p k=false)∨ ∃i,i<n∧MW n p=(i:Int)∧p i=true∧ ∀k,k<i→p k=false:=by
 cases h:(List.range n).find? p with
 | none=>exact .inl ⟨by rw [MW,h],fun k hk=>by have:=List.find?_range_eq_none.1 h k hk;simpa using this⟩
 | some i=>
   obtain ⟨h1,h2,h3⟩:=List.find?_range_eq_some.1 h
   exact .inr ⟨i,List.mem_range.1 h2,by rw [MW,h],h1,fun k hk=>by have:=h3 k hk;simpa using this⟩
def LA (os:List AG) (i:Nat):Bool:= !(ob os i).live&&decide ((ob os i).gen<999)
def CP (os:List AG):Int:=MW os.length (LA os)
def JQ (ws:List Wk):Int:=MW ws.length fun i=> !(wk ws i).used
theorem UM {os:List AG} {b c d:List T} {K:J2} (hol:os.length=8) (h:K [I (CP os)] []):cl2 ⟨Try.prog,w0⟩ 152 EM.sg [] [tR tO os,b,c,d] K:=by
 refine EM.cl2 ?_
 unfold EM.txt
 simp only [AJ,AN,AQ,AR,AK,AE,AL,AI,AS,AP,AU,AT,AM,AO,BJ,BP,BM,BN,BO,BS,BL,A4,A5,A9,A8,BA,A7]
 refine BF (fun i=>[iv i]) (fun _=>[]) os.length (fun i=> ∀k,k<i→LA os k=false) rfl rfl (fun k hk=>by omega) (fun R i hi hP hR=> ?_)
 simp only [AJ,AN,AQ,AR,AK,AE,AL,AI,AS,AP,AU,AT,AM,AO,BJ,BP,BM,BN,BO,BS,BL,A4,A5,A9,A8,BA,A7]
 refine A6 (BC (LZ (fun hlt=> ?_) fun hge=> ?_))
 ·have hlt':i<os.length:=by omega
  refine A6 (DX hlt rfl (FR (by omega) ?_))
  have no:LA os i=false→R [iv (i+1)] []:=fun hn=>hR hlt' fun k hk=>(Nat.lt_succ_iff_lt_or_eq.1 hk).elim (hP k) fun he=>he ▸ hn
  have yes:LA os i=true→K [iv i] []:=fun hy=>by unfold CP at h;rw [TW hlt' hy hP] at h;exact h
  refine AH hlt' ?_
  cases hv:(ob os i).live with
  | false=>
    refine KT (v:= .bool false) hlt' (by simp [tO,hv]) (CC ?_)
    repeat' (first | refine AH hlt' ?_ | refine JR (v:=I (ob os i).gen) hlt' (by decide) rfl ?_ | refine BC ?_ | refine GP ?_ | refine OU rfl ?_ | refine A6 ?_ | refine BB (by omega) ?_ | refine AW (fun _=> ?_) (fun _=> ?_))
    ·exact yes (by simp [LA,hv];omega)
    ·exact no (by simp [LA,hv];omega)
  | true=>
    refine KT (v:= .bool true) hlt' (by simp [tO,hv]) (CC ?_)
    repeat' (first | refine BC ?_ | refine FY ?_ | refine SP rfl ?_ | refine B6 ?_ | refine BB (by omega) ?_)
    all_goals exact no (by simp [LA,hv])
 ·refine EH hge rfl (B6 ?_)
  have:i=os.length:=by omega
  subst this
  unfold CP at h
  rw [YM hP] at h;exact h
def J3 (g s:Int):AG:=⟨true,g,s,1,0,1,QR,false⟩
def IN (os:List AG) (ss:List ByteArray) (s:ByteArray):List AG×List ByteArray×An:=
 if ¬(1≤(s.size:Int)∧(s.size:Int)≤8) then (os,ss,⟨2,0,[]⟩)
 else if CP os<0 then (os,ss,⟨3,0,[]⟩)
 else if at_ ss s<0∧6≤ss.length then (os,ss,⟨6,0,[]⟩)
 else (os.set (CP os).toNat (J3 (w64 ((ob os (CP os).toNat).gen+1)) (if at_ ss s<0 then ss.length else at_ ss s)),(if at_ ss s<0 then ss++[s] else ss),⟨0,B7 (CP os) (w64 ((ob os (CP os).toNat).gen+1)),[]⟩)
theorem O8 {os:List AG} (h: ¬CP os<0):(CP os).toNat<os.length∧CP os=((CP os).toNat:Int)∧LA os (CP os).toNat=true:=by
 rcases SA os.length (LA os) with ⟨h1,_⟩ | ⟨i,h1,h2,h3,_⟩
 ·unfold CP at h;omega
 ·have e:CP os=i:=h2
  have e2:(CP os).toNat=i:=by omega
  rw [e2];exact ⟨h1,e,h3⟩
theorem sM {l:List ByteArray} {x s:ByteArray} (h:x∉l):at_ (l++[x]) s=if x=s then (l.length:Int) else at_ l s:=by
 unfold at_
 by_cases hs:s∈l
 ·rw [if_pos (List.mem_append_left _ hs),if_pos hs,List.idxOf_append,if_pos hs,if_neg (show ¬x=s from fun he=>h (he ▸ hs))]
 ·by_cases hx:x=s
  ·rw [if_pos (by simp [hx]),if_pos hx,List.idxOf_append,if_neg hs]
   simp [hx]
  ·rw [if_neg (by simp [hs,Ne.symm hx]),if_neg hx,if_neg hs]
theorem W0 {os:List AG} {b c:List T} {ss:List ByteArray} {s:ByteArray} {k1 k2 k3 k4:Int} {K:J2} (hol:os.length=8) (hss:MD ss) (h:K [I (IN os ss s).2.2.code,I (IN os ss s).2.2.val] [tR tO (IN os ss s).1,tS (IN os ss s).2.1,tI (IN os ss s).2.2.freed]):cl2 ⟨Try.prog,w0⟩ 123 FD.sg [I k1,I k2,I k3,I k4, .string s] [tR tO os,b,c,tS ss] K:=by
 have hsl:=hss.len
 refine FD.cl2 ?_
 unfold FD.txt
 unfold IN at h
 refine gX (DQ (FQ (AW (fun hb=> ?_) fun hb=> ?_)))
 ·rw [if_pos hb] at h
  exact h
 rw [if_neg hb] at h
 refine UM hol (A6 (AW (fun hf=> ?_) fun hf=> ?_))
 ·rw [if_pos hf] at h
  exact h
 rw [if_neg hf] at h
 obtain ⟨f1,f2,f3⟩:=O8 hf
 refine BF (fun i=>[I (CP os),I (at_ (ss.take i) s),iv i,I k1,I k2,I k3,I k4, .string s,I 0,I 0]) (fun _=>[tR tO os,tS ss]) ss.length (fun i=>True) rfl rfl trivial (fun R i hi hP hR=> ?_)
 simp only [AJ,AN,AQ,AR,AK,AE,AL,AI,AS,AP,AU,AT,AM,AO,BJ,BP,BM,BN,BO,BS,BL,A4,A5,A9,A8,BA,A7]
 simp only [BL,uS,vJ,uX]
 refine A6 (AW (fun hlt=> ?_) fun hge=> ?_)
 ·have hlt:i<ss.length:=by omega
  replace hR:=hR hlt trivial
  have hone:=hss.one i hlt
  rw [List.take_succ_eq_append_getElem hlt,S1 hlt,sM hone] at hR
  refine BT (AH hlt (ldS hlt (dC (AW (fun he=> ?_) fun he=> ?_))))
  ·rw [if_pos he,List.length_take,Nat.min_eq_left hi] at hR
   exact BB (by omega) hR
  ·rw [if_neg he] at hR
   exact BB (by omega) hR
 ·have:i=ss.length:=by omega
  subst this
  rw [List.take_length]
  refine A6 ?_
  by_cases ha:at_ ss s<0
  ·by_cases h6:6≤ss.length
   ·rw [if_pos ⟨ha,h6⟩] at h
    repeat' (first | exact h | refine BC ?_ | refine HG (by first | with_reducible assumption | omega) ?_ | refine DX (by first | with_reducible assumption | omega) rfl ?_ | refine FR (by first | with_reducible assumption | omega) ?_ | refine J5 ?_)
    all_goals omega
   ·rw [if_neg (by omega),if_pos ha,if_pos ha] at h
    refine BC (BC (BC (HG ha (I7 (DX ha rfl (G6 (by omega) (BT (A6 (FR ha (DH rfl (by omega) ?_))))))))))
    repeat' (first | refine IH ?_ | refine GS ?_ | refine TY (by omega) (by omega) ?_ | refine JR (by omega) (by decide) rfl ?_ | simp only [AJ,AN,AQ,AR,AK,AE,AL,AI,AS,AP,AU,AT,AM,AO,BJ,BP,BM,BN,BO,BS,BL,A4,A5,A9,A8,BA,A7])
    rw [←hH] at h
    exact RK (y:=J3 (w64 ((ob os (CP os).toNat).gen+1)) ss.length) (by omega) rfl (GZ h)
  ·rw [if_neg (by omega),if_neg ha,if_neg ha] at h
   refine BC (BC (BC (JG ha (EH ha rfl (B6 (BT (A6 (G6 (by omega) ?_))))))))
   repeat' (first | refine IH ?_ | refine GS ?_ | refine TY (by omega) (by omega) ?_ | refine JR (by omega) (by decide) rfl ?_ | simp only [AJ,AN,AQ,AR,AK,AE,AL,AI,AS,AP,AU,AT,AM,AO,BJ,BP,BM,BN,BO,BS,BL,A4,A5,A9,A8,BA,A7])
   exact RK (y:=J3 (w64 ((ob os (CP os).toNat).gen+1)) (at_ ss s)) (by omega) rfl (GZ h)
def PE (r:List AG×List Int×List Int):List AG×List Int×An:=(r.1,r.2.1,⟨0,0,r.2.2⟩)
def HX (os:List AG) (buf:List Int) (kind id:Int):List AG×List Int×An:=
 if AB os id<0 then (os,buf,⟨1,0,[]⟩) else
 if kind=2 then
  if (ob os (AB os id).toNat).holds=20 then (os,buf,⟨4,0,[]⟩) else (EG (os.set (AB os id).toNat {ob os (AB os id).toNat with holds:=(ob os (AB os id).toNat).holds+1}) id,buf,⟨0,0,[]⟩)
 else if kind=5 then
  if (ob os (AB os id).toNat).roots=20 then (os,buf,⟨4,0,[]⟩) else (EG (os.set (AB os id).toNat {ob os (AB os id).toNat with roots:=(ob os (AB os id).toNat).roots+1}) id,buf,⟨0,0,[]⟩)
 else if kind=3 then
  if (ob os (AB os id).toNat).holds=0 then (os,buf,⟨5,0,[]⟩) else PE (F4 (os.set (AB os id).toNat {ob os (AB os id).toNat with holds:=(ob os (AB os id).toNat).holds-1}) buf [id])
 else
  if (ob os (AB os id).toNat).roots=0 then (os,buf,⟨5,0,[]⟩) else PE (F4 (os.set (AB os id).toNat {ob os (AB os id).toNat with roots:=(ob os (AB os id).toNat).roots-1}) buf [id])
theorem yI {os:List AG} {k:Nat} {v:Int} {K:List T→Prop} (hk:k<os.length) (h:K (tR tO (os.set k {ob os k with holds:=v}))):stc (tR tO os) [] (AA (iv k)*8+3) (I v) K:=by
 rw [←DA hk] at h;exact kS hk h
theorem xL {os:List AG} {k:Nat} {v:Int} {K:List T→Prop} (hk:k<os.length) (h:K (tR tO (os.set k {ob os k with roots:=v}))):stc (tR tO os) [] (AA (iv k)*8+4) (I v) K:=by
 rw [←DA hk] at h;exact PO hk (by decide) rfl rfl h
theorem St.set {h:Hp} {os:List AG} (st:St h) (hl:os.length=h.AD.length) (ho: ∀o∈os,OF o):St {h with AD:=os}:=⟨by have:=st.ol;simp only;omega,st.wl,st.sl,st.bl,ho,st.ss,st.wf,st.bf⟩
theorem XZ {h:Hp} {kind id b c:Int} {s:ByteArray} {K:J2} (st:St h) (hid:F64 id) (hkd:kind=2∨kind=3∨kind=5∨kind=6) (hr: ∀i,(0≤(ob h.AD i).holds∧(ob h.AD i).holds≤20)∧(0≤(ob h.AD i).roots∧(ob h.AD i).roots≤20)) (hK:K [I (HX h.AD h.buffer kind id).2.2.code,I (HX h.AD h.buffer kind id).2.2.val] [tR tO (HX h.AD h.buffer kind id).1,tR tW h.B2,tI (HX h.AD h.buffer kind id).2.1,tS h.sites,tI (HX h.AD h.buffer kind id).2.2.freed]):cl2 ⟨Try.prog,w0⟩ 124 GF.sg [I kind,I id,I b,I c, .string s] (trees h) K:=by
 refine GF.cl2 ?_
 unfold GF.txt
 obtain ⟨os,ws,buf,ss⟩:=h
 have hol:os.length=8:=st.ol
 have hof: ∀o∈os,OF o:=st.of
 simp only at hr hK
 simp only [trees]
 simp only [AJ,AN,AQ,AR,AK,AE,AL,AI,AS,AP,AU,AT,AM,AO,BJ,BP,BM,BN,BO,BS,BL,A4,A5,A9,A8,BA,A7]
 unfold HX at hK
 refine BY hid (by omega) (A6 (AW (fun hs=> ?_) fun hs=> ?_))
 ·rw [if_pos hs] at hK
  exact hK
 rw [if_neg hs] at hK
 have hkb:=BH (l:=os) (id:=id) (by omega)
 obtain ⟨k,hkk⟩: ∃k,(AB os id).toNat=k:=⟨_,rfl⟩
 have hkI:AB os id=(k:Int):=by omega
 rw [hkk] at hK hkb
 have hkl:k<os.length:=by omega
 have hrk:=hr k
 have ho:=hof _ (I4 (l:=os) (i:=k) (by omega))
 obtain ⟨⟨r1,r2⟩,r3,r4⟩:=hrk
 rw [BJ,hkI]
 refine AH (by omega) (TL hkl (BT (BT ?_)))
 simp only [uD,tK,tU,uG,tX,uF,uB]
 have gn: ∀{os':List AG} {K:J2},os'.length=os.length→(∀o∈os',OF o)→K [] [tR tO (EG os' id),tR tW ws,tI buf,tS ss]→cl2 ⟨Try.prog,w0⟩ 153 EZ.sg [I id] [tR tO os',tR tW ws,tI buf,tS ss] K:=fun hl ho hk=>UB (St.set st hl ho) hid hk
 have ls: ∀{os':List AG} {K:J2},os'.length=os.length→(∀o∈os',OF o)→K [] [tR tO (F4 os' buf [id]).1,tR tW ws,tI (F4 os' buf [id]).2.1,tS ss,tI (F4 os' buf [id]).2.2]→cl2 ⟨Try.prog,w0⟩ 154 FM.sg [] [tR tO os',tR tW ws,tI buf,tS ss,tI [id]] K:=fun hl ho hk=>T8 (St.set st hl ho) (by simp) (by simpa using hid) hk
 rcases hkd with rfl | rfl | rfl | rfl
 ·simp only [if_true] at hK
  by_cases h20:(ob os k).holds=20
  ·rw [if_pos h20] at hK
   repeat' (first | refine BC ?_ | refine GP ?_ | refine DX (by first | with_reducible assumption | omega) rfl ?_ | refine FR (by first | with_reducible assumption | omega) ?_ | refine J5 ?_ | refine B1 ?_ | simp only [AJ,AN,AQ,AR,AK,AE,AL,AI,AS,AP,AU,AT,AM,AO,BJ,BP,BM,BN,BO,BS,BL,A4,A5,A9,A8,BA,A7])
   exact hK
  ·rw [if_neg h20] at hK
   repeat' (first | refine BT ?_ | refine BC ?_ | refine GP ?_ | refine FY ?_ | refine DX (by first | with_reducible assumption | omega) rfl ?_ | refine EH (by first | with_reducible assumption | omega) rfl ?_ | refine CG ?_ | refine B6 ?_ | refine G6 (by first | with_reducible assumption | omega) ?_ | refine J5 ?_ | refine B1 ?_ | refine FW ⟨by omega,by omega⟩ ?_ | refine AH (by omega) ?_ | simp only [AJ,AN,AQ,AR,AK,AE,AL,AI,AS,AP,AU,AT,AM,AO,BJ,BP,BM,BN,BO,BS,BL,A4,A5,A9,A8,BA,A7])
   exact yI hkl (gn (by simp) (MO hof ⟨ho.gen,ho.len,ho.fld⟩) hK)
 ·simp only [if_neg (show ¬(3:Int)=2 by decide),if_neg (show ¬(3:Int)=5 by decide),if_true] at hK
  by_cases h20:(ob os k).holds=0
  ·rw [if_pos h20] at hK
   repeat' (first | refine BT ?_ | refine BC ?_ | refine GP ?_ | refine FY ?_ | refine DX (by first | with_reducible assumption | omega) rfl ?_ | refine EH (by first | with_reducible assumption | omega) rfl ?_ | refine B6 ?_ | refine FR (by first | with_reducible assumption | omega) ?_ | refine A6 ?_ | refine B1 ?_ | simp only [AJ,AN,AQ,AR,AK,AE,AL,AI,AS,AP,AU,AT,AM,AO,BJ,BP,BM,BN,BO,BS,BL,A4,A5,A9,A8,BA,A7])
   exact hK
  ·rw [if_neg h20] at hK
   repeat' (first | refine BT ?_ | refine BC ?_ | refine GP ?_ | refine FY ?_ | refine DX (by first | with_reducible assumption | omega) rfl ?_ | refine EH (by first | with_reducible assumption | omega) rfl ?_ | refine CG ?_ | refine B6 ?_ | refine G6 (by first | with_reducible assumption | omega) ?_ | refine A6 ?_ | refine B1 ?_ | refine FW ⟨by omega,by omega⟩ ?_ | refine AH (by omega) ?_ | simp only [AJ,AN,AQ,AR,AK,AE,AL,AI,AS,AP,AU,AT,AM,AO,BJ,BP,BM,BN,BO,BS,BL,A4,A5,A9,A8,BA,A7])
   exact yI hkl (ls (by simp) (MO hof ⟨ho.gen,ho.len,ho.fld⟩) hK)
 ·simp only [if_neg (show ¬(5:Int)=2 by decide),if_true] at hK
  by_cases h20:(ob os k).roots=20
  ·rw [if_pos h20] at hK
   repeat' (first | refine BC ?_ | refine GP ?_ | refine FY ?_ | refine DX (by first | with_reducible assumption | omega) rfl ?_ | refine EH (by first | with_reducible assumption | omega) rfl ?_ | refine B6 ?_ | refine FR (by first | with_reducible assumption | omega) ?_ | refine J5 ?_ | refine B1 ?_ | simp only [AJ,AN,AQ,AR,AK,AE,AL,AI,AS,AP,AU,AT,AM,AO,BJ,BP,BM,BN,BO,BS,BL,A4,A5,A9,A8,BA,A7])
   exact hK
  ·rw [if_neg h20] at hK
   repeat' (first | refine BT ?_ | refine BC ?_ | refine GP ?_ | refine FY ?_ | refine DX (by first | with_reducible assumption | omega) rfl ?_ | refine EH (by first | with_reducible assumption | omega) rfl ?_ | refine CG ?_ | refine B6 ?_ | refine G6 (by first | with_reducible assumption | omega) ?_ | refine J5 ?_ | refine B1 ?_ | refine FW ⟨by omega,by omega⟩ ?_ | refine AH (by omega) ?_ | simp only [AJ,AN,AQ,AR,AK,AE,AL,AI,AS,AP,AU,AT,AM,AO,BJ,BP,BM,BN,BO,BS,BL,A4,A5,A9,A8,BA,A7])
   exact xL hkl (gn (by simp) (MO hof ⟨ho.gen,ho.len,ho.fld⟩) hK)
 ·simp only [if_neg (show ¬(6:Int)=2 by decide),if_neg (show ¬(6:Int)=5 by decide),if_neg (show ¬(6:Int)=3 by decide)] at hK
  by_cases h20:(ob os k).roots=0
  ·rw [if_pos h20] at hK
   repeat' (first | refine BT ?_ | refine BC ?_ | refine GP ?_ | refine FY ?_ | refine DX (by first | with_reducible assumption | omega) rfl ?_ | refine EH (by first | with_reducible assumption | omega) rfl ?_ | refine B6 ?_ | refine FR (by first | with_reducible assumption | omega) ?_ | refine A6 ?_ | refine B1 ?_ | simp only [AJ,AN,AQ,AR,AK,AE,AL,AI,AS,AP,AU,AT,AM,AO,BJ,BP,BM,BN,BO,BS,BL,A4,A5,A9,A8,BA,A7])
   exact hK
  ·rw [if_neg h20] at hK
   repeat' (first | refine BT ?_ | refine BC ?_ | refine GP ?_ | refine FY ?_ | refine DX (by first | with_reducible assumption | omega) rfl ?_ | refine EH (by first | with_reducible assumption | omega) rfl ?_ | refine B6 ?_ | refine G6 (by first | with_reducible assumption | omega) ?_ | refine A6 ?_ | refine B1 ?_ | refine FW ⟨by omega,by omega⟩ ?_ | refine AH (by omega) ?_ | simp only [AJ,AN,AQ,AR,AK,AE,AL,AI,AS,AP,AU,AT,AM,AO,BJ,BP,BM,BN,BO,BS,BL,A4,A5,A9,A8,BA,A7])
   exact xL hkl (ls (by simp) (MO hof ⟨ho.gen,ho.len,ho.fld⟩) hK)
end Go.Proofs.Ytklmcfpgdfibnaa.P
namespace Go.Proofs.Ytklmcfpgdfibnaa.P
open Go Go.Proofs.Ytklmcfpgdfibnaa Go.Proofs.Ytklmcfpgdfibnaa.Eng
set_option linter.unusedVariables false
set_option maxHeartbeats 4000000
set_option linter.unusedVariables false
set_option linter.unusedSimpArgs false
attribute [local irreducible] prP gP gE gF AY ixW ldc ldg ldl stc stg scW mkW apW BD cl2 BQ CZ B9
variable {w0:World}
def J0 (os:List AG) (buf:List Int) (a b c:Int):List AG×List Int×An:=
 if AB os a<0∨(c≠ -1∧AB os c<0) then (os,buf,⟨1,0,[]⟩) else
 if ¬(0≤b∧b≤2) then (os,buf,⟨2,0,[]⟩) else
 if gI (ob os (AB os a).toNat).field b.toNat= -1 then
  ((EG os c).set (AB os a).toNat {ob (EG os c) (AB os a).toNat with field:=(ob os (AB os a).toNat).field.set b.toNat c},buf,⟨0,0,[]⟩)
 else PE (F4 ((EG os c).set (AB os a).toNat {ob (EG os c) (AB os a).toNat with field:=(ob os (AB os a).toNat).field.set b.toNat c}) buf [gI (ob os (AB os a).toNat).field b.toNat])
theorem EE {l:List AG} {i k:Nat} {o:AG} (hk:k<l.length):ob (l.set k o) i=if i=k then o else ob l i:=by
 unfold ob
 by_cases h:i=k
 ·subst h
  rw [if_pos rfl,List.getD_eq_getElem?_getD,List.getElem?_set_self hk];rfl
 ·rw [if_neg h,List.getD_eq_getElem?_getD,List.getElem?_set_ne (Ne.symm h),List.getD_eq_getElem?_getD]
theorem cP {os:List AG} {id:Int} {i:Nat}:(ob (EG os id) i).live=(ob os i).live∧(ob (EG os id) i).gen=(ob os i).gen∧(ob (EG os id) i).site=(ob os i).site∧(ob (EG os id) i).holds=(ob os i).holds∧(ob (EG os id) i).roots=(ob os i).roots∧(ob (EG os id) i).field=(ob os i).field∧(ob (EG os id) i).purple=(ob os i).purple:=by
 unfold EG
 split
 ·exact ⟨rfl,rfl,rfl,rfl,rfl,rfl,rfl⟩
 ·have hk:=BH (l:=os) (id:=id) (by omega)
  rw [EE (by omega)]
  split
  ·rename_i h;subst h;exact ⟨rfl,rfl,rfl,rfl,rfl,rfl,rfl⟩
  ·exact ⟨rfl,rfl,rfl,rfl,rfl,rfl,rfl⟩
theorem stF {os:List AG} {k j:Nat} {v:Int} {K:List T→Prop} (hk:k<os.length) (hj:j<(ob os k).field.length) (h:K (tR tO (os.set k {ob os k with field:=(ob os k).field.set j v}))):stc (tR tO os) [AA (iv k)*8+6] (AA (iv j)*1) (I v) K:=by
 rw [←DA hk] at h hj;exact kZ hk hj h
theorem OF.put {o:AG} {m:List Int} (h:OF o) (hl:m.length=3) (hf: ∀x∈m,F64 x):OF {o with field:=m}:=⟨h.gen,hl,hf⟩
theorem V4 {h:Hp} {a0 a1 a2 a3:Int} {s:ByteArray} {K:J2} (st:St h) (h1:F64 a1) (h3:F64 a3) (hfd: ∀i, ∀f∈(ob h.AD i).field,f= -1∨0≤f) (hK:K [I (J0 h.AD h.buffer a1 a2 a3).2.2.code,I (J0 h.AD h.buffer a1 a2 a3).2.2.val] [tR tO (J0 h.AD h.buffer a1 a2 a3).1,tR tW h.B2,tI (J0 h.AD h.buffer a1 a2 a3).2.1,tS h.sites,tI (J0 h.AD h.buffer a1 a2 a3).2.2.freed]):cl2 ⟨Try.prog,w0⟩ 125 FB.sg [I a0,I a1,I a2,I a3, .string s] (trees h) K:=by
 refine FB.cl2 ?_
 unfold FB.txt
 obtain ⟨os,ws,buf,ss⟩:=h
 have hol:os.length=8:=st.ol
 have hof: ∀o∈os,OF o:=st.of
 simp only at hK hfd
 simp only [trees]
 unfold J0 at hK
 have gn: ∀{K:J2},K [] [tR tO (EG os a3),tR tW ws,tI buf,tS ss]→cl2 ⟨Try.prog,w0⟩ 153 EZ.sg [I a3] [tR tO os,tR tW ws,tI buf,tS ss] K:=fun hk=>UB st h3 hk
 have ls: ∀{os':List AG} {x:Int} {K:J2},os'.length=os.length→(∀o∈os',OF o)→F64 x→K [] [tR tO (F4 os' buf [x]).1,tR tW ws,tI (F4 os' buf [x]).2.1,tS ss,tI (F4 os' buf [x]).2.2]→cl2 ⟨Try.prog,w0⟩ 154 FM.sg [] [tR tO os',tR tW ws,tI buf,tS ss,tI [x]] K:=fun hl ho hx hk=>T8 (St.set st hl ho) (by simp) (by simpa using hx) hk
 refine BY h1 (by omega) ?_
 by_cases hs:AB os a1<0
 ·rw [if_pos (.inl hs)] at hK
  repeat' (first | exact hK | refine BC ?_ | refine xN ?_ | refine gL (by first | with_reducible assumption | omega) ?_ | refine JF (by first | with_reducible assumption | omega) ?_ | refine DX (by first | with_reducible assumption | omega) rfl ?_ | refine CG ?_ | refine A6 ?_)
 have hkb:=BH (l:=os) (id:=a1) (by omega)
 by_cases hc:a3≠ -1∧AB os a3<0
 ·obtain ⟨hc1,hc2⟩:=hc
  rw [if_pos (.inr ⟨hc1,hc2⟩)] at hK
  repeat' (first | refine BY h3 (by omega) ?_ | exact hK | refine BC ?_ | refine c7 ?_ | refine aD (by first | with_reducible assumption | omega) ?_ | refine HG (by first | with_reducible assumption | omega) ?_ | refine HH (by first | with_reducible assumption | omega) ?_ | refine DX (by first | with_reducible assumption | omega) rfl ?_ | refine EH (by first | with_reducible assumption | omega) rfl ?_ | refine FR (by first | with_reducible assumption | omega) ?_ | refine A6 ?_ | refine C0 ?_)
 rw [if_neg (by omega)] at hK
 by_cases hb2: ¬(0≤a2∧a2≤2)
 ·rw [if_pos hb2] at hK
  repeat' (first | refine BY h3 (by omega) ?_ | refine DQ ?_ | exact hK | refine BC ?_ | refine c7 ?_ | refine aD (by first | with_reducible assumption | omega) ?_ | refine HG (by first | with_reducible assumption | omega) ?_ | refine JG (by first | with_reducible assumption | omega) ?_ | refine HH (by first | with_reducible assumption | omega) ?_ | refine DX (by first | with_reducible assumption | omega) rfl ?_ | refine EH (by first | with_reducible assumption | omega) rfl ?_ | refine B6 ?_ | refine FR (by first | with_reducible assumption | omega) ?_ | refine G6 (by first | with_reducible assumption | omega) ?_ | refine A6 ?_ | refine C0 ?_ | refine FQ ?_ | refine LZ (fun _=> ?_) (fun _=> ?_))
 rw [if_neg hb2] at hK
 obtain ⟨k,hkk⟩: ∃k,(AB os a1).toNat=k:=⟨_,rfl⟩
 have hkI:AB os a1=(k:Int):=by omega
 rw [hkk] at hK hkb
 obtain ⟨j,rfl⟩: ∃j:Nat,a2=j:=⟨a2.toNat,by omega⟩
 rw [Int.toNat_natCast] at hK
 have hkl:k<os.length:=by omega
 have ho:=hof _ (I4 (l:=os) (i:=k) (by omega))
 obtain ⟨_,_,_,_,_,gf,_⟩:=cP (os:=os) (id:=a3) (i:=k)
 have gl:=X6 os a3
 have gof:=nH (id:=a3) hof
 have jl:j<(ob os k).field.length:=by rw [ho.len];omega
 have hold:=hfd k _ (DJ jl)
 rw [hkI]
 repeat' (first | refine BY h3 (by omega) ?_ | refine DQ ?_ | refine BC ?_ | refine c7 ?_ | refine mR ?_ | refine KO ?_ | refine HG (by first | with_reducible assumption | omega) ?_ | refine JG (by first | with_reducible assumption | omega) ?_ | refine DX (by first | with_reducible assumption | omega) rfl ?_ | refine EH (by first | with_reducible assumption | omega) rfl ?_ | refine B6 ?_ | refine G6 (by first | with_reducible assumption | omega) ?_ | refine A6 ?_ | refine C0 ?_ | refine FQ ?_ | refine AH (by omega) ?_ | refine TI (by omega) ?_ | refine LZ (fun _=> ?_) (fun _=> ?_) | simp only [AJ,AN,AQ,AR,AK,AE,AL,AI,AS,AP,AU,AT,AM,AO,BJ,BP,BM,BN,BO,BS,BL,A4,A5,A9,A8,BA,A7])
 all_goals
  refine AH (by rw [HT (by omega),AE];exact jl) (MR (by omega) jl (BT ?_))
  simp only [AJ,AN,AQ,AR,AK,AE,AL,AI,AS,AP,AU,AT,AM,AO,BJ,BP,BM,BN,BO,BS,BL,A4,A5,A9,A8,BA,A7]
  refine I7 (AW (fun hge=>gn ?_) fun hlt=> ?_)
  ·simp only [AJ,AN,AQ,AR,AK,AE,AL,AI,AS,AP,AU,AT,AM,AO,BJ,BP,BM,BN,BO,BS,BL,A4,A5,A9,A8,BA,A7]
   refine AH (by omega) (O6 (f:=tO) (i:=k) (by omega) (by decide) rfl ?_)
   refine AH (by rw [HT (by omega),AE,gf];exact jl) (stF (by omega) (by rw [gf];exact jl) ?_)
   rw [gf]
   refine A6 (AW (fun he=> ?_) fun he=> ?_)
   ·rw [if_pos (by omega)] at hK;exact hK
   ·rw [if_neg (by omega)] at hK
    exact ls (by simpa using gl) (MO gof (OF.put (gof _ (I4 (by omega))) (by rw [List.length_set];exact ho.len) fun x hx=>(List.mem_or_eq_of_mem_set hx).elim (ho.fld x) fun he=>he ▸ h3)) (ho.fld _ (DJ jl)) hK
  ·have e0:EG os a3=os:=by unfold EG;rw [if_pos];rw [DE (by omega)];decide
   rw [e0] at hK
   refine AH (by omega) (O6 (f:=tO) (i:=k) (by omega) (by decide) rfl ?_)
   refine AH (by rw [HT (by omega),AE];exact jl) (stF (by omega) jl ?_)
   refine A6 (AW (fun he=> ?_) fun he=> ?_)
   ·rw [if_pos (by omega)] at hK;exact hK
   ·rw [if_neg (by omega)] at hK
    exact ls (by simp) (MO hof (OF.put ho (by rw [List.length_set];exact ho.len) fun x hx=>(List.mem_or_eq_of_mem_set hx).elim (ho.fld x) fun he=>he ▸ h3)) (ho.fld _ (DJ jl)) hK
def O2 (os:List AG) (ws:List Wk) (id:Int):List Wk×An:=
 if AB os id<0 then (ws,⟨1,0,[]⟩) else if JQ ws<0 then (ws,⟨3,0,[]⟩) else (ws.set (JQ ws).toNat ⟨true,id⟩,⟨0,JQ ws,[]⟩)
def I3 (os:List AG) (ws:List Wk) (kind k:Int):List Wk×An:=
 if ¬(0≤k∧k≤(ws.length:Int)-1) then (ws,⟨2,0,[]⟩) else
 if (wk ws k.toNat).used=false then (ws,⟨2,0,[]⟩) else
 if kind=9 then (ws.set k.toNat ⟨false,0⟩,⟨0,0,[]⟩) else
 if AB os (wk ws k.toNat).target<0 then (ws,⟨0, -1,[]⟩) else (ws,⟨0,(wk ws k.toNat).target,[]⟩)
theorem kM {ws:List Wk} (h: ¬JQ ws<0):(JQ ws).toNat<ws.length∧JQ ws=((JQ ws).toNat:Int)∧(wk ws (JQ ws).toNat).used=false:=by
 rcases SA ws.length (fun i=> !(wk ws i).used) with ⟨h1,_⟩ | ⟨i,h1,h2,h3,_⟩
 ·unfold JQ at h;omega
 ·have e:JQ ws=i:=h2
  have e2:(JQ ws).toNat=i:=by omega
  rw [e2];exact ⟨h1,e,by simpa using h3⟩
theorem XY {os:List AG} {ws:List Wk} {cc d:List T} {kind k b c:Int} {s:ByteArray} {K:J2} (hol:os.length=8) (hwl:ws.length=8) (hk:F64 k) (hwf: ∀w∈ws,F64 w.target) (h7:kind=7→K [I (O2 os ws k).2.code,I (O2 os ws k).2.val] [tR tW (O2 os ws k).1,tI (O2 os ws k).2.freed]) (h:kind≠7→K [I (I3 os ws kind k).2.code,I (I3 os ws kind k).2.val] [tR tW (I3 os ws kind k).1,tI (I3 os ws kind k).2.freed]):cl2 ⟨Try.prog,w0⟩ 126 GD.sg [I kind,I k,I b,I c, .string s] [tR tO os,tR tW ws,cc,d] K:=by
 refine GD.cl2 ?_
 unfold GD.txt
 simp only [AJ,AN,AQ,AR,AK,AE,AL,AI,AS,AP,AU,AT,AM,AO,BJ,BP,BM,BN,BO,BS,BL,A4,A5,A9,A8,BA,A7]
 refine B1 (AW (fun he=> ?_) fun he=> ?_)
 ·replace h:=h7 he
  clear h7
  unfold O2 at h
  refine BY hk (by omega) (A6 (AW (fun hs=> ?_) fun hs=> ?_))
  ·rw [if_pos hs] at h;exact h
  rw [if_neg hs] at h
  refine BF (fun i=>[iv i,I kind,I k,I b,I c, .string s,I 0,I 0]) (fun _=>[tR tW ws]) ws.length (fun i=> ∀j,j<i→(!(wk ws j).used)=false) rfl rfl (fun k hk=>by omega) (fun R i hi hP hR=> ?_)
  simp only [AJ,AN,AQ,AR,AK,AE,AL,AI,AS,AP,AU,AT,AM,AO,BJ,BP,BM,BN,BO,BS,BL,A4,A5,A9,A8,BA,A7]
  refine A6 (AW (fun hlt=> ?_) fun hge=> ?_)
  ·have hlt:i<ws.length:=by omega
   cases hv:(wk ws i).used with
   | false=>
     refine AH hlt (UR (v:= .bool false) hlt (by simp [tW,hv]) (CC (CG (AH hlt ?_))))
     unfold JQ at h
     rw [TW hlt (by rw [hv];rfl) hP,if_neg (by omega),Int.toNat_natCast] at h
     exact RK (f:=tW) hlt (y:=⟨true,k⟩) rfl h
   | true=>
     refine AH hlt (UR (v:= .bool true) hlt (by simp [tW,hv]) (CC (B6 (BB (by omega) (hR hlt fun k hk=> ?_)))))
     rcases Nat.lt_succ_iff_lt_or_eq.1 hk with h3 | rfl
     ·exact hP k h3
     ·rw [hv];rfl
  ·have:i=ws.length:=by omega
   subst this
   unfold JQ at h
   rw [YM hP,if_pos (by decide)] at h;exact h
 ·replace h:=h he
  clear h7
  unfold I3 at h
  refine I5 ⟨by omega,by omega⟩ (DQ (FQ ?_))
  by_cases hb: ¬(0≤k∧k≤(ws.length:Int)-1)
  ·rw [if_pos hb] at h
   repeat' (first | exact h | refine BC ?_ | refine JF (by first | with_reducible assumption | omega) ?_ | refine DX (by first | with_reducible assumption | omega) rfl ?_ | refine CG ?_)
  rw [if_neg hb] at h
  obtain ⟨j,rfl⟩: ∃j:Nat,k=j:=⟨k.toNat,by omega⟩
  rw [Int.toNat_natCast] at h
  have jl:j<ws.length:=by omega
  have hw:=hwf _ (List.getElem_mem jl)
  rw [c9 jl] at hw
  cases hu:(wk ws j).used with
  | false=>
    rw [if_pos hu] at h
    repeat' (first | refine UR (v:= .bool false) jl (by simp [tW,hu]) ?_ | exact h | refine BC ?_ | refine HH (by first | with_reducible assumption | omega) ?_ | refine EH (by first | with_reducible assumption | omega) rfl ?_ | refine CG ?_ | refine AH (by omega) ?_ | refine CC ?_)
  | true=>
    rw [if_neg (by rw [hu];decide)] at h
    repeat' (first | refine UR (v:= .bool true) jl (by simp [tW,hu]) ?_ | refine BY hw (by omega) ?_ | refine BC ?_ | refine HH (by first | with_reducible assumption | omega) ?_ | refine EH (by first | with_reducible assumption | omega) rfl ?_ | refine B6 ?_ | refine A6 ?_ | refine B1 ?_ | refine AH (by omega) ?_ | refine wV (by omega) (by decide) rfl ?_ | refine AW (fun _=> ?_) (fun _=> ?_) | refine CC ?_)
    ·rename_i hh
     rw [if_pos hh] at h
     exact RK (f:=tW) jl (y:=⟨false,0⟩) rfl h
    ·rename_i hh hs
     rw [if_neg hh,if_pos hs] at h
     exact h
    ·rename_i hh hs
     rw [if_neg hh,if_neg hs] at h
     exact h
end Go.Proofs.Ytklmcfpgdfibnaa.P
namespace Go.Proofs.Ytklmcfpgdfibnaa.P
open Go Go.Proofs.Ytklmcfpgdfibnaa Go.Proofs.Ytklmcfpgdfibnaa.Eng
set_option linter.unusedVariables false
theorem mG (n:Int):w64 n=(n+9223372036854775808) % 18446744073709551616-9223372036854775808:=by
 simp only [w64,IntKind.wrap,IntKind.bits,IntKind.signed]
 simp
 split <;> omega
theorem MG (a b:Int):w64 (w64 a+b)=w64 (a+b):=by simp only [mG];omega
theorem nZ (a:Int):F64 (w64 a):=by rw [mG];exact ⟨by omega,by omega⟩
def GC:Nat→(Nat→Int)→Int
 | 0,_=>0
 | n+1,f=>GC n f+f n
theorem KB {n:Nat} {f g:Nat→Int} (h: ∀k,k<n→f k=g k):GC n f=GC n g:=by
 induction n with
 | zero=>rfl
 | succ n ih=>simp only [GC];rw [ih fun k hk=>h k (by omega),h n (by omega)]
theorem TU {n k0:Nat} {f g:Nat→Int} (hk:k0<n) (h: ∀k,k<n→k≠k0→f k=g k):GC n g=GC n f+(g k0-f k0):=by
 induction n with
 | zero=>omega
 | succ n ih=>
   simp only [GC]
   by_cases he:k0=n
   ·subst he
    rw [KB (g:=g) fun k hk=>h k (by omega) (by omega)];omega
   ·rw [ih (by omega) fun k hk hne=>h k (by omega) hne,h n (by omega) (by omega)];omega
theorem kR {n:Nat} {f g:Nat→Int}:GC n (fun k=>f k+g k)=GC n f+GC n g:=by
 induction n with
 | zero=>rfl
 | succ n ih=>simp only [GC,ih];omega
theorem IL {n:Nat} {f:Nat→Int} (h: ∀k,k<n→f k=0):GC n f=0:=by
 induction n with
 | zero=>rfl
 | succ n ih=>simp only [GC];rw [ih fun k hk=>h k (by omega),h n (by omega)];rfl
theorem KG {n:Nat} {f g:Nat→Int} (h: ∀k,k<n→f k≤g k):GC n f≤GC n g:=by
 induction n with
 | zero=>exact Int.le_refl _
 | succ n ih=>simp only [GC];have:=ih fun k hk=>h k (by omega);have:=h n (by omega);omega
theorem FJ {l:List Int} {i k:Nat} {v:Int} (hk:k<l.length):gI (l.set k v) i=if i=k then v else gI l i:=by
 unfold gI
 by_cases h:i=k
 ·subst h
  rw [if_pos rfl,List.getD_eq_getElem?_getD,List.getElem?_set_self hk];rfl
 ·rw [if_neg h,List.getD_eq_getElem?_getD,List.getElem?_set_ne (Ne.symm h),List.getD_eq_getElem?_getD]
def BK (os:List AG) (k:Nat):List Int:=((ob os k).field.map (AB os)).filter fun x=>decide (0≤x)
def E (os:List AG) (k i:Nat):Int:=((BK os k).count (i:Int):Nat)
theorem B3 {os:List AG} {k:Nat} {x:Int} (h:x∈BK os k):0≤x∧x.toNat<8∧x=(x.toNat:Int)∧os.length=8∧(ob os x.toNat).live=true:=by
 obtain ⟨h1,h2⟩:=List.mem_filter.1 h
 obtain ⟨f,_,rfl⟩:=List.mem_map.1 h1
 have h2:0≤AB os f:=by simpa using h2
 have:=BH h2
 exact ⟨h2,this.2.2.2.1,by omega,this.1,this.2.2.2.2.1⟩
theorem O5 {os:List AG} (hof: ∀o∈os,OF o) {k:Nat} (hk:k<os.length):(BK os k).length≤3:=by
 have:=List.length_filter_le (fun x=>decide (0≤x)) ((ob os k).field.map (AB os))
 rw [List.length_map,(hof _ (I4 hk)).len] at this
 exact this
theorem PL (os:List AG) (k i:Nat):0≤E os k i:=Int.natCast_nonneg _
theorem u6 {os:List AG} {k i:Nat} (h:(i:Int)∉BK os k):E os k i=0:=by
 unfold E;rw [List.count_eq_zero.2 h];rfl
inductive Reach (os:List AG) (s:Nat):Nat→Prop
 | refl:Reach os s s
 | step {k:Nat} {j:Int}:Reach os s k→j∈BK os k→Reach os s j.toNat
theorem Reach.trans {os:List AG} {a b c:Nat} (h:Reach os a b) (g:Reach os b c):Reach os a c:=by
 induction g with
 | refl=>exact h
 | step _ hj ih=>exact .step ih hj
theorem Reach.closed {os:List AG} {P:Nat→Prop} {s k:Nat} (h:Reach os s k) (hs:P s) (hc: ∀k,P k→ ∀j∈BK os k,P j.toNat):P k:=by
 induction h with
 | refl=>exact hs
 | step _ hj ih=>exact hc _ ih _ hj
theorem Reach.lt {os:List AG} {s k:Nat} (h:Reach os s k) (hs:s<8):k<8:=h.closed (P:=fun k=>k<8) hs fun _ _ _ hj=>(B3 hj).2.1
def S (os:List AG) (P:Nat→Bool) (i:Nat):Int:=GC 8 fun k=>if P k then E os k i else 0
theorem iH {os:List AG} {P Q:Nat→Bool} {i:Nat} (h: ∀k,k<8→P k=Q k):S os P i=S os Q i:=KB fun k hk=>by rw [h k hk]
theorem nX {os:List AG} {P Q:Nat→Bool} {i k0:Nat} (hk:k0<8) (h0:P k0=false) (h1:Q k0=true) (h: ∀k,k<8→k≠k0→P k=Q k):S os Q i=S os P i+E os k0 i:=by
 unfold S
 rw [TU (n:=8) (f:=fun k=>if P k then E os k i else 0) (g:=fun k=>if Q k then E os k i else 0) hk fun k hk hne=>by rw [h k hk hne]]
 simp only [h0,h1];simp
theorem ZI {os:List AG} {P:Nat→Bool} {i:Nat}:S os P i+S os (fun k=> !P k) i=S os (fun _=>true) i:=by
 unfold S
 rw [←kR]
 refine KB fun k hk=> ?_
 cases h:P k <;> simp [h]
def isC (col:List Int) (c:Int) (k:Nat):Bool:=decide (gI col k=c)
theorem P7 {col:List Int} {c:Int} {k s:Nat} (hs:s<col.length):isC (col.set s c) c k=(decide (k=s)||isC col c k):=by
 unfold isC
 rw [FJ hs]
 by_cases h:k=s
 ·simp [h]
 ·simp [h]
def KF (col:List Int) (c:Int):Nat:=(GC 8 fun k=>if isC col c k then 0 else 1).toNat
theorem jV {a b:List Int} {c:Int} (h: ∀k,k<8→gI a k=c→gI b k=c):KF b c≤KF a c:=by
 have:GC 8 (fun k=>if isC b c k then 0 else 1)≤GC 8 (fun k=>if isC a c k then 0 else 1):=KG fun k hk=>by
  by_cases h1:gI a k=c
  ·simp [isC,h1,h k hk h1]
  ·by_cases h3:gI b k=c <;> simp [isC,h1,h3]
 unfold KF;omega
theorem R7 {a b:List Int} {c:Int} {s:Nat} (hs:s<8) (h0:gI a s≠c) (h1:gI b s=c) (h: ∀k,k<8→gI a k=c→gI b k=c):KF b c<KF a c:=by
 have hle:GC 8 (fun k=>if isC b c k then 0 else 1)≤GC 8 (fun k=>if isC a c k∨k=s then 0 else 1):=KG fun k hk=>by
  by_cases h2:gI a k=c
  ·simp [isC,h2,h k hk h2]
  ·by_cases hks:k=s
   ·subst hks;simp [isC,h1]
   ·by_cases h3:gI b k=c <;> simp [isC,h2,h3,hks]
 have hu:=TU (n:=8) (k0:=s) (f:=fun k=>if isC a c k∨k=s then (0:Int) else 1) (g:=fun k=>if isC a c k then (0:Int) else 1) hs fun k hk hne=>by simp [hne]
 have e1:isC a c s=false:=by simp [isC,h0]
 simp only [e1,or_true,if_true] at hu
 have h3:0≤GC 8 (fun k=>if isC b c k then (0:Int) else 1):=by
  have:=KG (n:=8) (f:=fun _=>0) (g:=fun k=>if isC b c k then (0:Int) else 1) fun k hk=>by split <;> simp
  rw [IL (fun _ _=>rfl)] at this;exact this
 simp only [Bool.false_eq_true,if_false] at hu
 unfold KF;omega
theorem nI (col:List Int) (c:Int):KF col c≤8:=by
 have:GC 8 (fun k=>if isC col c k then (0:Int) else 1)≤GC 8 (fun _=>1):=KG fun k hk=>by split <;> simp
 have e:GC 8 (fun _=>(1:Int))=8:=rfl
 unfold KF;omega
structure MT (os:List AG) (c m:Int) (cs col cs' col':List Int) (s:Nat):Prop where
 len:cs'.length=8∧col'.length=8
 f: ∀i,i<8→F64 (gI cs' i)
 JU: ∀k,k<8→gI col k=c→gI col' k=c
 only: ∀k,k<8→gI col' k≠c→gI col' k=gI col k
 got:gI col' s=c
 clo: ∀k,k<8→gI col' k=c→gI col k≠c→Reach os s k∧ ∀j∈BK os k,gI col' j.toNat=c
 cnt: ∀i,i<8→gI cs' i=w64 (gI cs i+m*(S os (isC col' c) i-S os (isC col c) i))
theorem MT.refl {os:List AG} {c m:Int} {cs col:List Int} {s:Nat} (h1:cs.length=8) (h2:col.length=8) (hf: ∀i,i<8→F64 (gI cs i)) (hs:gI col s=c):MT os c m cs col cs col s:=
 ⟨⟨h1,h2⟩,hf,fun _ _ h=>h,fun _ _ _=>rfl,hs,fun _ _ h1 h2=>absurd h1 h2,fun i hi=>by rw [Int.sub_self,Int.mul_zero,Int.add_zero,JM (hf i hi)]⟩
end Go.Proofs.Ytklmcfpgdfibnaa.P
