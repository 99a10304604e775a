/- A part of the proof. -/
import Derived.Test.YtklmcfpgdfibnaaLkHpI
namespace Go.Proofs.Ytklmcfpgdfibnaa.P
open Go Go.Proofs.Ytklmcfpgdfibnaa Go.Proofs.Ytklmcfpgdfibnaa.Eng
set_option linter.unusedVariables false
set_option maxHeartbeats 4000000
set_option linter.unusedVariables false
set_option linter.unusedSimpArgs false
attribute [local irreducible] prP gP gE gF A6 ixW ldc ldg ldl stc stg scW mkW apW BD cl2 BP C3 B9
variable {w0:World}
def ND (n:Nat) (p:Nat→Bool):Int:=match (List.range n).find? p with
 | some i=>(i:Int)
 | none=> -1
theorem UH {n i:Nat} {p:Nat→Bool} (hi:i<n) (h:p i=true) (hb: ∀k,k<i→p k=false):ND n p=i:=by
 have:(List.range n).find? p=some i:=List.find?_range_eq_some.2 ⟨h,List.mem_range.2 hi,fun j hj=>by rw [hb j hj];rfl⟩
 rw [ND,this]
theorem ZD {n:Nat} {p:Nat→Bool} (hb: ∀k,k<n→p k=false):ND n p= -1:=by
 have:(List.range n).find? p=none:=List.find?_range_eq_none.2 fun j hj=>by rw [hb j hj];rfl
 rw [ND,this]
theorem S6 (n:Nat) (p:Nat→Bool):(ND n p= -1∧ ∀k,k<n→p k=false)∨ ∃i,i<n∧ND n p=(i:Int)∧p i=true∧ ∀k,k<i→p k=false:=by
 cases h:(List.range n).find? p with
 | none=>exact .inl ⟨by rw [ND,h],fun k hk=>by have:=List.find?_range_eq_none.1 h k hk;simpa using this⟩
 | some i=>
   obtain ⟨h1,h2,h3⟩:=List.find?_range_eq_some.1 h
   exact .inr ⟨i,List.mem_range.1 h2,by rw [ND,h],h1,fun k hk=>by have:=h3 k hk;simpa using this⟩
def LR (os:List AG) (i:Nat):Bool:= !(ob os i).live&&decide ((ob os i).gen<999)
def CX (os:List AG):Int:=ND os.length (LR os)
def KC (ws:List Wk):Int:=ND ws.length fun i=> !(wk ws i).used
theorem U9 {os:List AG} {b c d:List T} {K:J2} (hol:os.length=8) (h:K [I (CX os)] []):cl2 ⟨Try.prog,w0⟩ 152 ET.sg [] [tR tO os,b,c,d] K:=by
 refine ET.cl2 ?_
 unfold ET.txt
 simp only [AI,AP,AN,AS,AK,AE,AJ,AH,AM,AT,AL,AR,AO,AQ,BC,BE,BF,BJ,BL,BK,BH,AW,A5,AZ,A4,AY,AX]
 refine BM (fun i=>[iv i]) (fun _=>[]) os.length (fun i=> ∀k,k<i→LR os k=false) rfl rfl (fun k hk=>by omega) (fun R i hi hP hR=> ?_)
 simp only [AI,AP,AN,AS,AK,AE,AJ,AH,AM,AT,AL,AR,AO,AQ,BC,BE,BF,BJ,BL,BK,BH,AW,A5,AZ,A4,AY,AX]
 refine A9 (BG (ME (fun hlt=> ?_) fun hge=> ?_))
 ·have hlt':i<os.length:=by omega
  refine A9 (FH hlt rfl (GA (by omega) ?_))
  have no:LR os i=false→R [iv (i+1)] []:=fun hn=>hR hlt' fun k hk=>(Nat.lt_succ_iff_lt_or_eq.1 hk).elim (hP k) fun he=>he ▸ hn
  have yes:LR os i=true→K [iv i] []:=fun hy=>by unfold CX at h;rw [UH hlt' hy hP] at h;exact h
  refine AU hlt' ?_
  cases hv:(ob os i).live with
  | false=>
    refine LD (v:= .bool false) hlt' (by simp [tO,hv]) (CY ?_)
    repeat' (first | refine AU hlt' ?_ | refine HQ (v:=I (ob os i).gen) hlt' (by decide) rfl ?_ | refine BG ?_ | refine IH ?_ | refine R6 rfl ?_ | refine A9 ?_ | refine A8 (by omega) ?_ | refine A7 (fun _=> ?_) (fun _=> ?_))
    ·exact yes (by simp [LR,hv];omega)
    ·exact no (by simp [LR,hv];omega)
  | true=>
    refine LD (v:= .bool true) hlt' (by simp [tO,hv]) (CY ?_)
    repeat' (first | refine BG ?_ | refine HJ ?_ | refine R1 rfl ?_ | refine B5 ?_ | refine A8 (by omega) ?_)
    all_goals exact no (by simp [LR,hv])
 ·refine ER hge rfl (B5 ?_)
  have:i=os.length:=by omega
  subst this
  unfold CX at h
  rw [ZD hP] at h;exact h
def J7 (g s:Int):AG:=⟨true,g,s,1,0,1,RI,false⟩
def I3 (os:List AG) (ss:List ByteArray) (s:ByteArray):List AG×List ByteArray×An:=
 if ¬(1≤(s.size:Int)∧(s.size:Int)≤8) then (os,ss,⟨2,0,[]⟩)
 else if CX os<0 then (os,ss,⟨3,0,[]⟩)
 else if at_ ss s<0∧6≤ss.length then (os,ss,⟨6,0,[]⟩)
 else (os.set (CX os).toNat (J7 (w64 ((ob os (CX os).toNat).gen+1)) (if at_ ss s<0 then ss.length else at_ ss s)),(if at_ ss s<0 then ss++[s] else ss),⟨0,B6 (CX os) (w64 ((ob os (CX os).toNat).gen+1)),[]⟩)
theorem O2 {os:List AG} (h: ¬CX os<0):(CX os).toNat<os.length∧CX os=((CX os).toNat:Int)∧LR os (CX os).toNat=true:=by
 rcases S6 os.length (LR os) with ⟨h1,_⟩ | ⟨i,h1,h2,h3,_⟩
 ·unfold CX at h;omega
 ·have e:CX os=i:=h2
  have e2:(CX os).toNat=i:=by omega
  rw [e2];exact ⟨h1,e,h3⟩
theorem qW {l:List ByteArray} {x s:ByteArray} (h:x∉l):at_ (l++[x]) s=if x=s then (l.length:Int) else at_ l s:=by
 unfold at_
 by_cases hs:s∈l
 ·rw [if_pos (List.mem_append_left _ hs),if_pos hs,List.idxOf_append,if_pos hs,if_neg (show ¬x=s from fun he=>h (he ▸ hs))]
 ·by_cases hx:x=s
  ·rw [if_pos (by simp [hx]),if_pos hx,List.idxOf_append,if_neg hs]
   simp [hx]
  ·rw [if_neg (by simp [hs,Ne.symm hx]),if_neg hx,if_neg hs]
theorem XC {os:List AG} {b c:List T} {ss:List ByteArray} {s:ByteArray} {k1 k2 k3 k4:Int} {K:J2} (hol:os.length=8) (hss:MG ss) (h:K [I (I3 os ss s).2.2.code,I (I3 os ss s).2.2.val] [tR tO (I3 os ss s).1,tS (I3 os ss s).2.1,tI (I3 os ss s).2.2.freed]):cl2 ⟨Try.prog,w0⟩ 123 FN.sg [I k1,I k2,I k3,I k4, .string s] [tR tO os,b,c,tS ss] K:=by
 have hsl:=hss.len
 refine FN.cl2 ?_
 unfold FN.txt
 unfold I3 at h
 refine iB (DR (F4 (A7 (fun hb=> ?_) fun hb=> ?_)))
 ·rw [if_pos hb] at h
  exact h
 rw [if_neg hb] at h
 refine U9 hol (A9 (A7 (fun hf=> ?_) fun hf=> ?_))
 ·rw [if_pos hf] at h
  exact h
 rw [if_neg hf] at h
 obtain ⟨f1,f2,f3⟩:=O2 hf
 refine BM (fun i=>[I (CX os),I (at_ (ss.take i) s),iv i,I k1,I k2,I k3,I k4, .string s,I 0,I 0]) (fun _=>[tR tO os,tS ss]) ss.length (fun i=>True) rfl rfl trivial (fun R i hi hP hR=> ?_)
 simp only [AI,AP,AN,AS,AK,AE,AJ,AH,AM,AT,AL,AR,AO,AQ,BC,BE,BF,BJ,BL,BK,BH,AW,A5,AZ,A4,AY,AX]
 simp only [BH,uP,wN,w4]
 refine A9 (A7 (fun hlt=> ?_) fun hge=> ?_)
 ·have hlt:i<ss.length:=by omega
  replace hR:=hR hlt trivial
  have hone:=hss.one i hlt
  rw [List.take_succ_eq_append_getElem hlt,SX hlt,qW hone] at hR
  refine BW (AU hlt (ldS hlt (dS (A7 (fun he=> ?_) fun he=> ?_))))
  ·rw [if_pos he,List.length_take,Nat.min_eq_left hi] at hR
   exact A8 (by omega) hR
  ·rw [if_neg he] at hR
   exact A8 (by omega) hR
 ·have:i=ss.length:=by omega
  subst this
  rw [List.take_length]
  refine A9 ?_
  by_cases ha:at_ ss s<0
  ·by_cases h6:6≤ss.length
   ·rw [if_pos ⟨ha,h6⟩] at h
    repeat' (first | exact h | refine BG ?_ | refine LN (by first | with_reducible assumption | omega) ?_ | refine FH (by first | with_reducible assumption | omega) rfl ?_ | refine GA (by first | with_reducible assumption | omega) ?_ | refine KN ?_)
    all_goals omega
   ·rw [if_neg (by omega),if_pos ha,if_pos ha] at h
    refine BG (BG (BG (LN ha (LA (FH ha rfl (DU (by omega) (BW (A9 (GA ha (DG rfl (by omega) ?_))))))))))
    repeat' (first | refine IP ?_ | refine H4 ?_ | refine UQ (by omega) (by omega) ?_ | refine HQ (by omega) (by decide) rfl ?_ | simp only [AI,AP,AN,AS,AK,AE,AJ,AH,AM,AT,AL,AR,AO,AQ,BC,BE,BF,BJ,BL,BK,BH,AW,A5,AZ,A4,AY,AX])
    rw [←j7] at h
    exact RW (y:=J7 (w64 ((ob os (CX os).toNat).gen+1)) ss.length) (by omega) rfl (G5 h)
  ·rw [if_neg (by omega),if_neg ha,if_neg ha] at h
   refine BG (BG (BG (PX ha (ER ha rfl (B5 (BW (A9 (DU (by omega) ?_))))))))
   repeat' (first | refine IP ?_ | refine H4 ?_ | refine UQ (by omega) (by omega) ?_ | refine HQ (by omega) (by decide) rfl ?_ | simp only [AI,AP,AN,AS,AK,AE,AJ,AH,AM,AT,AL,AR,AO,AQ,BC,BE,BF,BJ,BL,BK,BH,AW,A5,AZ,A4,AY,AX])
   exact RW (y:=J7 (w64 ((ob os (CX os).toNat).gen+1)) (at_ ss s)) (by omega) rfl (G5 h)
def OS (r:List AG×List Int×List Int):List AG×List Int×An:=(r.1,r.2.1,⟨0,0,r.2.2⟩)
def HT (os:List AG) (buf:List Int) (kind id:Int):List AG×List Int×An:=
 if AB os id<0 then (os,buf,⟨1,0,[]⟩) else
 if kind=2 then
  if (ob os (AB os id).toNat).holds=20 then (os,buf,⟨4,0,[]⟩) else (EO (os.set (AB os id).toNat {ob os (AB os id).toNat with holds:=(ob os (AB os id).toNat).holds+1}) id,buf,⟨0,0,[]⟩)
 else if kind=5 then
  if (ob os (AB os id).toNat).roots=20 then (os,buf,⟨4,0,[]⟩) else (EO (os.set (AB os id).toNat {ob os (AB os id).toNat with roots:=(ob os (AB os id).toNat).roots+1}) id,buf,⟨0,0,[]⟩)
 else if kind=3 then
  if (ob os (AB os id).toNat).holds=0 then (os,buf,⟨5,0,[]⟩) else OS (FY (os.set (AB os id).toNat {ob os (AB os id).toNat with holds:=(ob os (AB os id).toNat).holds-1}) buf [id])
 else
  if (ob os (AB os id).toNat).roots=0 then (os,buf,⟨5,0,[]⟩) else OS (FY (os.set (AB os id).toNat {ob os (AB os id).toNat with roots:=(ob os (AB os id).toNat).roots-1}) buf [id])
theorem yM {os:List AG} {k:Nat} {v:Int} {K:List T→Prop} (hk:k<os.length) (h:K (tR tO (os.set k {ob os k with holds:=v}))):stc (tR tO os) [] (AD (iv k)*8+3) (I v) K:=by
 rw [←DL hk] at h;exact mH hk h
theorem yK {os:List AG} {k:Nat} {v:Int} {K:List T→Prop} (hk:k<os.length) (h:K (tR tO (os.set k {ob os k with roots:=v}))):stc (tR tO os) [] (AD (iv k)*8+4) (I v) K:=by
 rw [←DL hk] at h;exact UB hk (by decide) rfl rfl h
theorem St.set {h:Hp} {os:List AG} (st:St h) (hl:os.length=h.AA.length) (ho: ∀o∈os,OF o):St {h with AA:=os}:=⟨by have:=st.ol;simp only;omega,st.wl,st.sl,st.bl,ho,st.ss,st.wf,st.bf⟩
theorem X9 {h:Hp} {kind id b c:Int} {s:ByteArray} {K:J2} (st:St h) (hid:F64 id) (hkd:kind=2∨kind=3∨kind=5∨kind=6) (hr: ∀i,(0≤(ob h.AA i).holds∧(ob h.AA i).holds≤20)∧(0≤(ob h.AA i).roots∧(ob h.AA i).roots≤20)) (hK:K [I (HT h.AA h.buffer kind id).2.2.code,I (HT h.AA h.buffer kind id).2.2.val] [tR tO (HT h.AA h.buffer kind id).1,tR tW h.B4,tI (HT h.AA h.buffer kind id).2.1,tS h.sites,tI (HT h.AA h.buffer kind id).2.2.freed]):cl2 ⟨Try.prog,w0⟩ 124 GF.sg [I kind,I id,I b,I c, .string s] (trees h) K:=by
 refine GF.cl2 ?_
 unfold GF.txt
 obtain ⟨os,ws,buf,ss⟩:=h
 have hol:os.length=8:=st.ol
 have hof: ∀o∈os,OF o:=st.of
 simp only at hr hK
 simp only [trees]
 simp only [AI,AP,AN,AS,AK,AE,AJ,AH,AM,AT,AL,AR,AO,AQ,BC,BE,BF,BJ,BL,BK,BH,AW,A5,AZ,A4,AY,AX]
 unfold HT at hK
 refine B1 hid (by omega) (A9 (A7 (fun hs=> ?_) fun hs=> ?_))
 ·rw [if_pos hs] at hK
  exact hK
 rw [if_neg hs] at hK
 have hkb:=BT (l:=os) (id:=id) (by omega)
 obtain ⟨k,hkk⟩: ∃k,(AB os id).toNat=k:=⟨_,rfl⟩
 have hkI:AB os id=(k:Int):=by omega
 rw [hkk] at hK hkb
 have hkl:k<os.length:=by omega
 have hrk:=hr k
 have ho:=hof _ (JW (l:=os) (i:=k) (by omega))
 obtain ⟨⟨r1,r2⟩,r3,r4⟩:=hrk
 rw [BC,hkI]
 refine AU (by omega) (UA hkl (BW (BW ?_)))
 simp only [qL,mT,uI,uE,tZ,uC,uD]
 have gn: ∀{os':List AG} {K:J2},os'.length=os.length→(∀o∈os',OF o)→K [] [tR tO (EO os' id),tR tW ws,tI buf,tS ss]→cl2 ⟨Try.prog,w0⟩ 153 FF.sg [I id] [tR tO os',tR tW ws,tI buf,tS ss] K:=fun hl ho hk=>UP (St.set st hl ho) hid hk
 have ls: ∀{os':List AG} {K:J2},os'.length=os.length→(∀o∈os',OF o)→K [] [tR tO (FY os' buf [id]).1,tR tW ws,tI (FY os' buf [id]).2.1,tS ss,tI (FY os' buf [id]).2.2]→cl2 ⟨Try.prog,w0⟩ 154 FT.sg [] [tR tO os',tR tW ws,tI buf,tS ss,tI [id]] K:=fun hl ho hk=>UN (St.set st hl ho) (by simp) (by simpa using hid) hk
 rcases hkd with rfl | rfl | rfl | rfl
 ·simp only [if_true] at hK
  by_cases h20:(ob os k).holds=20
  ·rw [if_pos h20] at hK
   repeat' (first | refine BG ?_ | refine IH ?_ | refine FH (by first | with_reducible assumption | omega) rfl ?_ | refine GA (by first | with_reducible assumption | omega) ?_ | refine KN ?_ | refine B3 ?_ | simp only [AI,AP,AN,AS,AK,AE,AJ,AH,AM,AT,AL,AR,AO,AQ,BC,BE,BF,BJ,BL,BK,BH,AW,A5,AZ,A4,AY,AX])
   exact hK
  ·rw [if_neg h20] at hK
   repeat' (first | refine BW ?_ | refine BG ?_ | refine IH ?_ | refine HJ ?_ | refine FH (by first | with_reducible assumption | omega) rfl ?_ | refine ER (by first | with_reducible assumption | omega) rfl ?_ | refine CE ?_ | refine B5 ?_ | refine DU (by first | with_reducible assumption | omega) ?_ | refine KN ?_ | refine B3 ?_ | refine EC ⟨by omega,by omega⟩ ?_ | refine AU (by omega) ?_ | simp only [AI,AP,AN,AS,AK,AE,AJ,AH,AM,AT,AL,AR,AO,AQ,BC,BE,BF,BJ,BL,BK,BH,AW,A5,AZ,A4,AY,AX])
   exact yM hkl (gn (by simp) (MX hof ⟨ho.gen,ho.len,ho.fld⟩) hK)
 ·simp only [if_neg (show ¬(3:Int)=2 by decide),if_neg (show ¬(3:Int)=5 by decide),if_true] at hK
  by_cases h20:(ob os k).holds=0
  ·rw [if_pos h20] at hK
   repeat' (first | refine BW ?_ | refine BG ?_ | refine IH ?_ | refine HJ ?_ | refine FH (by first | with_reducible assumption | omega) rfl ?_ | refine ER (by first | with_reducible assumption | omega) rfl ?_ | refine B5 ?_ | refine GA (by first | with_reducible assumption | omega) ?_ | refine A9 ?_ | refine B3 ?_ | simp only [AI,AP,AN,AS,AK,AE,AJ,AH,AM,AT,AL,AR,AO,AQ,BC,BE,BF,BJ,BL,BK,BH,AW,A5,AZ,A4,AY,AX])
   exact hK
  ·rw [if_neg h20] at hK
   repeat' (first | refine BW ?_ | refine BG ?_ | refine IH ?_ | refine HJ ?_ | refine FH (by first | with_reducible assumption | omega) rfl ?_ | refine ER (by first | with_reducible assumption | omega) rfl ?_ | refine CE ?_ | refine B5 ?_ | refine DU (by first | with_reducible assumption | omega) ?_ | refine A9 ?_ | refine B3 ?_ | refine EC ⟨by omega,by omega⟩ ?_ | refine AU (by omega) ?_ | simp only [AI,AP,AN,AS,AK,AE,AJ,AH,AM,AT,AL,AR,AO,AQ,BC,BE,BF,BJ,BL,BK,BH,AW,A5,AZ,A4,AY,AX])
   exact yM hkl (ls (by simp) (MX hof ⟨ho.gen,ho.len,ho.fld⟩) hK)
 ·simp only [if_neg (show ¬(5:Int)=2 by decide),if_true] at hK
  by_cases h20:(ob os k).roots=20
  ·rw [if_pos h20] at hK
   repeat' (first | refine BG ?_ | refine IH ?_ | refine HJ ?_ | refine FH (by first | with_reducible assumption | omega) rfl ?_ | refine ER (by first | with_reducible assumption | omega) rfl ?_ | refine B5 ?_ | refine GA (by first | with_reducible assumption | omega) ?_ | refine KN ?_ | refine B3 ?_ | simp only [AI,AP,AN,AS,AK,AE,AJ,AH,AM,AT,AL,AR,AO,AQ,BC,BE,BF,BJ,BL,BK,BH,AW,A5,AZ,A4,AY,AX])
   exact hK
  ·rw [if_neg h20] at hK
   repeat' (first | refine BW ?_ | refine BG ?_ | refine IH ?_ | refine HJ ?_ | refine FH (by first | with_reducible assumption | omega) rfl ?_ | refine ER (by first | with_reducible assumption | omega) rfl ?_ | refine CE ?_ | refine B5 ?_ | refine DU (by first | with_reducible assumption | omega) ?_ | refine KN ?_ | refine B3 ?_ | refine EC ⟨by omega,by omega⟩ ?_ | refine AU (by omega) ?_ | simp only [AI,AP,AN,AS,AK,AE,AJ,AH,AM,AT,AL,AR,AO,AQ,BC,BE,BF,BJ,BL,BK,BH,AW,A5,AZ,A4,AY,AX])
   exact yK hkl (gn (by simp) (MX hof ⟨ho.gen,ho.len,ho.fld⟩) hK)
 ·simp only [if_neg (show ¬(6:Int)=2 by decide),if_neg (show ¬(6:Int)=5 by decide),if_neg (show ¬(6:Int)=3 by decide)] at hK
  by_cases h20:(ob os k).roots=0
  ·rw [if_pos h20] at hK
   repeat' (first | refine BW ?_ | refine BG ?_ | refine IH ?_ | refine HJ ?_ | refine FH (by first | with_reducible assumption | omega) rfl ?_ | refine ER (by first | with_reducible assumption | omega) rfl ?_ | refine B5 ?_ | refine GA (by first | with_reducible assumption | omega) ?_ | refine A9 ?_ | refine B3 ?_ | simp only [AI,AP,AN,AS,AK,AE,AJ,AH,AM,AT,AL,AR,AO,AQ,BC,BE,BF,BJ,BL,BK,BH,AW,A5,AZ,A4,AY,AX])
   exact hK
  ·rw [if_neg h20] at hK
   repeat' (first | refine BW ?_ | refine BG ?_ | refine IH ?_ | refine HJ ?_ | refine FH (by first | with_reducible assumption | omega) rfl ?_ | refine ER (by first | with_reducible assumption | omega) rfl ?_ | refine B5 ?_ | refine DU (by first | with_reducible assumption | omega) ?_ | refine A9 ?_ | refine B3 ?_ | refine EC ⟨by omega,by omega⟩ ?_ | refine AU (by omega) ?_ | simp only [AI,AP,AN,AS,AK,AE,AJ,AH,AM,AT,AL,AR,AO,AQ,BC,BE,BF,BJ,BL,BK,BH,AW,A5,AZ,A4,AY,AX])
   exact yK hkl (ls (by simp) (MX hof ⟨ho.gen,ho.len,ho.fld⟩) hK)
end Go.Proofs.Ytklmcfpgdfibnaa.P
namespace Go.Proofs.Ytklmcfpgdfibnaa.P
open Go Go.Proofs.Ytklmcfpgdfibnaa Go.Proofs.Ytklmcfpgdfibnaa.Eng
set_option linter.unusedVariables false
set_option maxHeartbeats 4000000
set_option linter.unusedVariables false
set_option linter.unusedSimpArgs false
attribute [local irreducible] prP gP gE gF A6 ixW ldc ldg ldl stc stg scW mkW apW BD cl2 BP C3 B9
variable {w0:World}
def JQ (os:List AG) (buf:List Int) (a b c:Int):List AG×List Int×An:=
 if AB os a<0∨(c≠ -1∧AB os c<0) then (os,buf,⟨1,0,[]⟩) else
 if ¬(0≤b∧b≤2) then (os,buf,⟨2,0,[]⟩) else
 if gI (ob os (AB os a).toNat).field b.toNat= -1 then
  ((EO os c).set (AB os a).toNat {ob (EO os c) (AB os a).toNat with field:=(ob os (AB os a).toNat).field.set b.toNat c},buf,⟨0,0,[]⟩)
 else OS (FY ((EO os c).set (AB os a).toNat {ob (EO os c) (AB os a).toNat with field:=(ob os (AB os a).toNat).field.set b.toNat c}) buf [gI (ob os (AB os a).toNat).field b.toNat])
theorem DV {l:List AG} {i k:Nat} {o:AG} (hk:k<l.length):ob (l.set k o) i=if i=k then o else ob l i:=by
 unfold ob
 by_cases h:i=k
 ·subst h
  rw [if_pos rfl,List.getD_eq_getElem?_getD,List.getElem?_set_self hk];rfl
 ·rw [if_neg h,List.getD_eq_getElem?_getD,List.getElem?_set_ne (Ne.symm h),List.getD_eq_getElem?_getD]
theorem dT {os:List AG} {id:Int} {i:Nat}:(ob (EO os id) i).live=(ob os i).live∧(ob (EO os id) i).gen=(ob os i).gen∧(ob (EO os id) i).site=(ob os i).site∧(ob (EO os id) i).holds=(ob os i).holds∧(ob (EO os id) i).roots=(ob os i).roots∧(ob (EO os id) i).field=(ob os i).field∧(ob (EO os id) i).purple=(ob os i).purple:=by
 unfold EO
 split
 ·exact ⟨rfl,rfl,rfl,rfl,rfl,rfl,rfl⟩
 ·have hk:=BT (l:=os) (id:=id) (by omega)
  rw [DV (by omega)]
  split
  ·rename_i h;subst h;exact ⟨rfl,rfl,rfl,rfl,rfl,rfl,rfl⟩
  ·exact ⟨rfl,rfl,rfl,rfl,rfl,rfl,rfl⟩
theorem stF {os:List AG} {k j:Nat} {v:Int} {K:List T→Prop} (hk:k<os.length) (hj:j<(ob os k).field.length) (h:K (tR tO (os.set k {ob os k with field:=(ob os k).field.set j v}))):stc (tR tO os) [AD (iv k)*8+6] (AD (iv j)*1) (I v) K:=by
 rw [←DL hk] at h hj;exact mF hk hj h
theorem OF.put {o:AG} {m:List Int} (h:OF o) (hl:m.length=3) (hf: ∀x∈m,F64 x):OF {o with field:=m}:=⟨h.gen,hl,hf⟩
theorem XX {h:Hp} {a0 a1 a2 a3:Int} {s:ByteArray} {K:J2} (st:St h) (h1:F64 a1) (h3:F64 a3) (hfd: ∀i, ∀f∈(ob h.AA i).field,f= -1∨0≤f) (hK:K [I (JQ h.AA h.buffer a1 a2 a3).2.2.code,I (JQ h.AA h.buffer a1 a2 a3).2.2.val] [tR tO (JQ h.AA h.buffer a1 a2 a3).1,tR tW h.B4,tI (JQ h.AA h.buffer a1 a2 a3).2.1,tS h.sites,tI (JQ h.AA h.buffer a1 a2 a3).2.2.freed]):cl2 ⟨Try.prog,w0⟩ 125 FI.sg [I a0,I a1,I a2,I a3, .string s] (trees h) K:=by
 refine FI.cl2 ?_
 unfold FI.txt
 obtain ⟨os,ws,buf,ss⟩:=h
 have hol:os.length=8:=st.ol
 have hof: ∀o∈os,OF o:=st.of
 simp only at hK hfd
 simp only [trees]
 unfold JQ at hK
 have gn: ∀{K:J2},K [] [tR tO (EO os a3),tR tW ws,tI buf,tS ss]→cl2 ⟨Try.prog,w0⟩ 153 FF.sg [I a3] [tR tO os,tR tW ws,tI buf,tS ss] K:=fun hk=>UP st h3 hk
 have ls: ∀{os':List AG} {x:Int} {K:J2},os'.length=os.length→(∀o∈os',OF o)→F64 x→K [] [tR tO (FY os' buf [x]).1,tR tW ws,tI (FY os' buf [x]).2.1,tS ss,tI (FY os' buf [x]).2.2]→cl2 ⟨Try.prog,w0⟩ 154 FT.sg [] [tR tO os',tR tW ws,tI buf,tS ss,tI [x]] K:=fun hl ho hx hk=>UN (St.set st hl ho) (by simp) (by simpa using hx) hk
 refine B1 h1 (by omega) ?_
 by_cases hs:AB os a1<0
 ·rw [if_pos (.inl hs)] at hK
  repeat' (first | exact hK | refine BG ?_ | refine y7 ?_ | refine gJ (by first | with_reducible assumption | omega) ?_ | refine HI (by first | with_reducible assumption | omega) ?_ | refine FH (by first | with_reducible assumption | omega) rfl ?_ | refine CE ?_ | refine A9 ?_)
 have hkb:=BT (l:=os) (id:=a1) (by omega)
 by_cases hc:a3≠ -1∧AB os a3<0
 ·obtain ⟨hc1,hc2⟩:=hc
  rw [if_pos (.inr ⟨hc1,hc2⟩)] at hK
  repeat' (first | refine B1 h3 (by omega) ?_ | exact hK | refine BG ?_ | refine eF ?_ | refine bB (by first | with_reducible assumption | omega) ?_ | refine LN (by first | with_reducible assumption | omega) ?_ | refine C7 (by first | with_reducible assumption | omega) ?_ | refine FH (by first | with_reducible assumption | omega) rfl ?_ | refine ER (by first | with_reducible assumption | omega) rfl ?_ | refine GA (by first | with_reducible assumption | omega) ?_ | refine A9 ?_ | refine CT ?_)
 rw [if_neg (by omega)] at hK
 by_cases hb2: ¬(0≤a2∧a2≤2)
 ·rw [if_pos hb2] at hK
  repeat' (first | refine B1 h3 (by omega) ?_ | refine DR ?_ | exact hK | refine BG ?_ | refine eF ?_ | refine bB (by first | with_reducible assumption | omega) ?_ | refine LN (by first | with_reducible assumption | omega) ?_ | refine PX (by first | with_reducible assumption | omega) ?_ | refine C7 (by first | with_reducible assumption | omega) ?_ | refine FH (by first | with_reducible assumption | omega) rfl ?_ | refine ER (by first | with_reducible assumption | omega) rfl ?_ | refine B5 ?_ | refine GA (by first | with_reducible assumption | omega) ?_ | refine DU (by first | with_reducible assumption | omega) ?_ | refine A9 ?_ | refine CT ?_ | refine F4 ?_ | refine ME (fun _=> ?_) (fun _=> ?_))
 rw [if_neg hb2] at hK
 obtain ⟨k,hkk⟩: ∃k,(AB os a1).toNat=k:=⟨_,rfl⟩
 have hkI:AB os a1=(k:Int):=by omega
 rw [hkk] at hK hkb
 obtain ⟨j,rfl⟩: ∃j:Nat,a2=j:=⟨a2.toNat,by omega⟩
 rw [Int.toNat_natCast] at hK
 have hkl:k<os.length:=by omega
 have ho:=hof _ (JW (l:=os) (i:=k) (by omega))
 obtain ⟨_,_,_,_,_,gf,_⟩:=dT (os:=os) (id:=a3) (i:=k)
 have gl:=ZN os a3
 have gof:=oO (id:=a3) hof
 have jl:j<(ob os k).field.length:=by rw [ho.len];omega
 have hold:=hfd k _ (CH jl)
 rw [hkI]
 repeat' (first | refine B1 h3 (by omega) ?_ | refine DR ?_ | refine BG ?_ | refine eF ?_ | refine nX ?_ | refine HU ?_ | refine LN (by first | with_reducible assumption | omega) ?_ | refine PX (by first | with_reducible assumption | omega) ?_ | refine FH (by first | with_reducible assumption | omega) rfl ?_ | refine ER (by first | with_reducible assumption | omega) rfl ?_ | refine B5 ?_ | refine DU (by first | with_reducible assumption | omega) ?_ | refine A9 ?_ | refine CT ?_ | refine F4 ?_ | refine AU (by omega) ?_ | refine TJ (by omega) ?_ | refine ME (fun _=> ?_) (fun _=> ?_) | simp only [AI,AP,AN,AS,AK,AE,AJ,AH,AM,AT,AL,AR,AO,AQ,BC,BE,BF,BJ,BL,BK,BH,AW,A5,AZ,A4,AY,AX])
 all_goals
  refine AU (by rw [IL (by omega),AE];exact jl) (M5 (by omega) jl (BW ?_))
  simp only [AI,AP,AN,AS,AK,AE,AJ,AH,AM,AT,AL,AR,AO,AQ,BC,BE,BF,BJ,BL,BK,BH,AW,A5,AZ,A4,AY,AX]
  refine LA (A7 (fun hge=>gn ?_) fun hlt=> ?_)
  ·simp only [AI,AP,AN,AS,AK,AE,AJ,AH,AM,AT,AL,AR,AO,AQ,BC,BE,BF,BJ,BL,BK,BH,AW,A5,AZ,A4,AY,AX]
   refine AU (by omega) (RM (f:=tO) (i:=k) (by omega) (by decide) rfl ?_)
   refine AU (by rw [IL (by omega),AE,gf];exact jl) (stF (by omega) (by rw [gf];exact jl) ?_)
   rw [gf]
   refine A9 (A7 (fun he=> ?_) fun he=> ?_)
   ·rw [if_pos (by omega)] at hK;exact hK
   ·rw [if_neg (by omega)] at hK
    exact ls (by simpa using gl) (MX gof (OF.put (gof _ (JW (by omega))) (by rw [List.length_set];exact ho.len) fun x hx=>(List.mem_or_eq_of_mem_set hx).elim (ho.fld x) fun he=>he ▸ h3)) (ho.fld _ (CH jl)) hK
  ·have e0:EO os a3=os:=by unfold EO;rw [if_pos];rw [FG (by omega)];decide
   rw [e0] at hK
   refine AU (by omega) (RM (f:=tO) (i:=k) (by omega) (by decide) rfl ?_)
   refine AU (by rw [IL (by omega),AE];exact jl) (stF (by omega) jl ?_)
   refine A9 (A7 (fun he=> ?_) fun he=> ?_)
   ·rw [if_pos (by omega)] at hK;exact hK
   ·rw [if_neg (by omega)] at hK
    exact ls (by simp) (MX hof (OF.put ho (by rw [List.length_set];exact ho.len) fun x hx=>(List.mem_or_eq_of_mem_set hx).elim (ho.fld x) fun he=>he ▸ h3)) (ho.fld _ (CH jl)) hK
def PT (os:List AG) (ws:List Wk) (id:Int):List Wk×An:=
 if AB os id<0 then (ws,⟨1,0,[]⟩) else if KC ws<0 then (ws,⟨3,0,[]⟩) else (ws.set (KC ws).toNat ⟨true,id⟩,⟨0,KC ws,[]⟩)
def JX (os:List AG) (ws:List Wk) (kind k:Int):List Wk×An:=
 if ¬(0≤k∧k≤(ws.length:Int)-1) then (ws,⟨2,0,[]⟩) else
 if (wk ws k.toNat).used=false then (ws,⟨2,0,[]⟩) else
 if kind=9 then (ws.set k.toNat ⟨false,0⟩,⟨0,0,[]⟩) else
 if AB os (wk ws k.toNat).target<0 then (ws,⟨0, -1,[]⟩) else (ws,⟨0,(wk ws k.toNat).target,[]⟩)
theorem lL {ws:List Wk} (h: ¬KC ws<0):(KC ws).toNat<ws.length∧KC ws=((KC ws).toNat:Int)∧(wk ws (KC ws).toNat).used=false:=by
 rcases S6 ws.length (fun i=> !(wk ws i).used) with ⟨h1,_⟩ | ⟨i,h1,h2,h3,_⟩
 ·unfold KC at h;omega
 ·have e:KC ws=i:=h2
  have e2:(KC ws).toNat=i:=by omega
  rw [e2];exact ⟨h1,e,by simpa using h3⟩
theorem YG {os:List AG} {ws:List Wk} {cc d:List T} {kind k b c:Int} {s:ByteArray} {K:J2} (hol:os.length=8) (hwl:ws.length=8) (hk:F64 k) (hwf: ∀w∈ws,F64 w.target) (h7:kind=7→K [I (PT os ws k).2.code,I (PT os ws k).2.val] [tR tW (PT os ws k).1,tI (PT os ws k).2.freed]) (h:kind≠7→K [I (JX os ws kind k).2.code,I (JX os ws kind k).2.val] [tR tW (JX os ws kind k).1,tI (JX os ws kind k).2.freed]):cl2 ⟨Try.prog,w0⟩ 126 GC.sg [I kind,I k,I b,I c, .string s] [tR tO os,tR tW ws,cc,d] K:=by
 refine GC.cl2 ?_
 unfold GC.txt
 simp only [AI,AP,AN,AS,AK,AE,AJ,AH,AM,AT,AL,AR,AO,AQ,BC,BE,BF,BJ,BL,BK,BH,AW,A5,AZ,A4,AY,AX]
 refine B3 (A7 (fun he=> ?_) fun he=> ?_)
 ·replace h:=h7 he
  clear h7
  unfold PT at h
  refine B1 hk (by omega) (A9 (A7 (fun hs=> ?_) fun hs=> ?_))
  ·rw [if_pos hs] at h;exact h
  rw [if_neg hs] at h
  refine BM (fun i=>[iv i,I kind,I k,I b,I c, .string s,I 0,I 0]) (fun _=>[tR tW ws]) ws.length (fun i=> ∀j,j<i→(!(wk ws j).used)=false) rfl rfl (fun k hk=>by omega) (fun R i hi hP hR=> ?_)
  simp only [AI,AP,AN,AS,AK,AE,AJ,AH,AM,AT,AL,AR,AO,AQ,BC,BE,BF,BJ,BL,BK,BH,AW,A5,AZ,A4,AY,AX]
  refine A9 (A7 (fun hlt=> ?_) fun hge=> ?_)
  ·have hlt:i<ws.length:=by omega
   cases hv:(wk ws i).used with
   | false=>
     refine AU hlt (VV (v:= .bool false) hlt (by simp [tW,hv]) (CY (CE (AU hlt ?_))))
     unfold KC at h
     rw [UH hlt (by rw [hv];rfl) hP,if_neg (by omega),Int.toNat_natCast] at h
     exact RW (f:=tW) hlt (y:=⟨true,k⟩) rfl h
   | true=>
     refine AU hlt (VV (v:= .bool true) hlt (by simp [tW,hv]) (CY (B5 (A8 (by omega) (hR hlt fun k hk=> ?_)))))
     rcases Nat.lt_succ_iff_lt_or_eq.1 hk with h3 | rfl
     ·exact hP k h3
     ·rw [hv];rfl
  ·have:i=ws.length:=by omega
   subst this
   unfold KC at h
   rw [ZD hP,if_pos (by decide)] at h;exact h
 ·replace h:=h he
  clear h7
  unfold JX at h
  refine JP ⟨by omega,by omega⟩ (DR (F4 ?_))
  by_cases hb: ¬(0≤k∧k≤(ws.length:Int)-1)
  ·rw [if_pos hb] at h
   repeat' (first | exact h | refine BG ?_ | refine HI (by first | with_reducible assumption | omega) ?_ | refine FH (by first | with_reducible assumption | omega) rfl ?_ | refine CE ?_)
  rw [if_neg hb] at h
  obtain ⟨j,rfl⟩: ∃j:Nat,k=j:=⟨k.toNat,by omega⟩
  rw [Int.toNat_natCast] at h
  have jl:j<ws.length:=by omega
  have hw:=hwf _ (List.getElem_mem jl)
  rw [bX jl] at hw
  cases hu:(wk ws j).used with
  | false=>
    rw [if_pos hu] at h
    repeat' (first | refine VV (v:= .bool false) jl (by simp [tW,hu]) ?_ | exact h | refine BG ?_ | refine C7 (by first | with_reducible assumption | omega) ?_ | refine ER (by first | with_reducible assumption | omega) rfl ?_ | refine CE ?_ | refine AU (by omega) ?_ | refine CY ?_)
  | true=>
    rw [if_neg (by rw [hu];decide)] at h
    repeat' (first | refine VV (v:= .bool true) jl (by simp [tW,hu]) ?_ | refine B1 hw (by omega) ?_ | refine BG ?_ | refine C7 (by first | with_reducible assumption | omega) ?_ | refine ER (by first | with_reducible assumption | omega) rfl ?_ | refine B5 ?_ | refine A9 ?_ | refine B3 ?_ | refine AU (by omega) ?_ | refine wY (by omega) (by decide) rfl ?_ | refine A7 (fun _=> ?_) (fun _=> ?_) | refine CY ?_)
    ·rename_i hh
     rw [if_pos hh] at h
     exact RW (f:=tW) jl (y:=⟨false,0⟩) rfl h
    ·rename_i hh hs
     rw [if_neg hh,if_pos hs] at h
     exact h
    ·rename_i hh hs
     rw [if_neg hh,if_neg hs] at h
     exact h
end Go.Proofs.Ytklmcfpgdfibnaa.P
namespace Go.Proofs.Ytklmcfpgdfibnaa.P
open Go Go.Proofs.Ytklmcfpgdfibnaa Go.Proofs.Ytklmcfpgdfibnaa.Eng
set_option linter.unusedVariables false
theorem mV (n:Int):w64 n=(n+9223372036854775808) % 18446744073709551616-9223372036854775808:=by
 simp only [w64,IntKind.wrap,IntKind.bits,IntKind.signed]
 simp
 split <;> omega
theorem MF (a b:Int):w64 (w64 a+b)=w64 (a+b):=by simp only [mV];omega
theorem m3 (a:Int):F64 (w64 a):=by rw [mV];exact ⟨by omega,by omega⟩
def GH:Nat→(Nat→Int)→Int
 | 0,_=>0
 | n+1,f=>GH n f+f n
theorem KZ {n:Nat} {f g:Nat→Int} (h: ∀k,k<n→f k=g k):GH n f=GH n g:=by
 induction n with
 | zero=>rfl
 | succ n ih=>simp only [GH];rw [ih fun k hk=>h k (by omega),h n (by omega)]
theorem TZ {n k0:Nat} {f g:Nat→Int} (hk:k0<n) (h: ∀k,k<n→k≠k0→f k=g k):GH n g=GH n f+(g k0-f k0):=by
 induction n with
 | zero=>omega
 | succ n ih=>
   simp only [GH]
   by_cases he:k0=n
   ·subst he
    rw [KZ (g:=g) fun k hk=>h k (by omega) (by omega)];omega
   ·rw [ih (by omega) fun k hk hne=>h k (by omega) hne,h n (by omega) (by omega)];omega
theorem kY {n:Nat} {f g:Nat→Int}:GH n (fun k=>f k+g k)=GH n f+GH n g:=by
 induction n with
 | zero=>rfl
 | succ n ih=>simp only [GH,ih];omega
theorem I5 {n:Nat} {f:Nat→Int} (h: ∀k,k<n→f k=0):GH n f=0:=by
 induction n with
 | zero=>rfl
 | succ n ih=>simp only [GH];rw [ih fun k hk=>h k (by omega),h n (by omega)];rfl
theorem KQ {n:Nat} {f g:Nat→Int} (h: ∀k,k<n→f k≤g k):GH n f≤GH n g:=by
 induction n with
 | zero=>exact Int.le_refl _
 | succ n ih=>simp only [GH];have:=ih fun k hk=>h k (by omega);have:=h n (by omega);omega
theorem FK {l:List Int} {i k:Nat} {v:Int} (hk:k<l.length):gI (l.set k v) i=if i=k then v else gI l i:=by
 unfold gI
 by_cases h:i=k
 ·subst h
  rw [if_pos rfl,List.getD_eq_getElem?_getD,List.getElem?_set_self hk];rfl
 ·rw [if_neg h,List.getD_eq_getElem?_getD,List.getElem?_set_ne (Ne.symm h),List.getD_eq_getElem?_getD]
def BQ (os:List AG) (k:Nat):List Int:=((ob os k).field.map (AB os)).filter fun x=>decide (0≤x)
def E (os:List AG) (k i:Nat):Int:=((BQ os k).count (i:Int):Nat)
theorem B8 {os:List AG} {k:Nat} {x:Int} (h:x∈BQ os k):0≤x∧x.toNat<8∧x=(x.toNat:Int)∧os.length=8∧(ob os x.toNat).live=true:=by
 obtain ⟨h1,h2⟩:=List.mem_filter.1 h
 obtain ⟨f,_,rfl⟩:=List.mem_map.1 h1
 have h2:0≤AB os f:=by simpa using h2
 have:=BT h2
 exact ⟨h2,this.2.2.2.1,by omega,this.1,this.2.2.2.2.1⟩
theorem NR {os:List AG} (hof: ∀o∈os,OF o) {k:Nat} (hk:k<os.length):(BQ os k).length≤3:=by
 have:=List.length_filter_le (fun x=>decide (0≤x)) ((ob os k).field.map (AB os))
 rw [List.length_map,(hof _ (JW hk)).len] at this
 exact this
theorem PH (os:List AG) (k i:Nat):0≤E os k i:=Int.natCast_nonneg _
theorem vR {os:List AG} {k i:Nat} (h:(i:Int)∉BQ os k):E os k i=0:=by
 unfold E;rw [List.count_eq_zero.2 h];rfl
inductive Reach (os:List AG) (s:Nat):Nat→Prop
 | refl:Reach os s s
 | step {k:Nat} {j:Int}:Reach os s k→j∈BQ os k→Reach os s j.toNat
theorem Reach.trans {os:List AG} {a b c:Nat} (h:Reach os a b) (g:Reach os b c):Reach os a c:=by
 induction g with
 | refl=>exact h
 | step _ hj ih=>exact .step ih hj
theorem Reach.closed {os:List AG} {P:Nat→Prop} {s k:Nat} (h:Reach os s k) (hs:P s) (hc: ∀k,P k→ ∀j∈BQ os k,P j.toNat):P k:=by
 induction h with
 | refl=>exact hs
 | step _ hj ih=>exact hc _ ih _ hj
theorem Reach.lt {os:List AG} {s k:Nat} (h:Reach os s k) (hs:s<8):k<8:=h.closed (P:=fun k=>k<8) hs fun _ _ _ hj=>(B8 hj).2.1
def S (os:List AG) (P:Nat→Bool) (i:Nat):Int:=GH 8 fun k=>if P k then E os k i else 0
theorem iL {os:List AG} {P Q:Nat→Bool} {i:Nat} (h: ∀k,k<8→P k=Q k):S os P i=S os Q i:=KZ fun k hk=>by rw [h k hk]
theorem mQ {os:List AG} {P Q:Nat→Bool} {i k0:Nat} (hk:k0<8) (h0:P k0=false) (h1:Q k0=true) (h: ∀k,k<8→k≠k0→P k=Q k):S os Q i=S os P i+E os k0 i:=by
 unfold S
 rw [TZ (n:=8) (f:=fun k=>if P k then E os k i else 0) (g:=fun k=>if Q k then E os k i else 0) hk fun k hk hne=>by rw [h k hk hne]]
 simp only [h0,h1];simp
theorem Z6 {os:List AG} {P:Nat→Bool} {i:Nat}:S os P i+S os (fun k=> !P k) i=S os (fun _=>true) i:=by
 unfold S
 rw [←kY]
 refine KZ fun k hk=> ?_
 cases h:P k <;> simp [h]
def isC (col:List Int) (c:Int) (k:Nat):Bool:=decide (gI col k=c)
theorem P5 {col:List Int} {c:Int} {k s:Nat} (hs:s<col.length):isC (col.set s c) c k=(decide (k=s)||isC col c k):=by
 unfold isC
 rw [FK hs]
 by_cases h:k=s
 ·simp [h]
 ·simp [h]
def KX (col:List Int) (c:Int):Nat:=(GH 8 fun k=>if isC col c k then 0 else 1).toNat
theorem iH {a b:List Int} {c:Int} (h: ∀k,k<8→gI a k=c→gI b k=c):KX b c≤KX a c:=by
 have:GH 8 (fun k=>if isC b c k then 0 else 1)≤GH 8 (fun k=>if isC a c k then 0 else 1):=KQ fun k hk=>by
  by_cases h1:gI a k=c
  ·simp [isC,h1,h k hk h1]
  ·by_cases h3:gI b k=c <;> simp [isC,h1,h3]
 unfold KX;omega
theorem SE {a b:List Int} {c:Int} {s:Nat} (hs:s<8) (h0:gI a s≠c) (h1:gI b s=c) (h: ∀k,k<8→gI a k=c→gI b k=c):KX b c<KX a c:=by
 have hle:GH 8 (fun k=>if isC b c k then 0 else 1)≤GH 8 (fun k=>if isC a c k∨k=s then 0 else 1):=KQ fun k hk=>by
  by_cases h2:gI a k=c
  ·simp [isC,h2,h k hk h2]
  ·by_cases hks:k=s
   ·subst hks;simp [isC,h1]
   ·by_cases h3:gI b k=c <;> simp [isC,h2,h3,hks]
 have hu:=TZ (n:=8) (k0:=s) (f:=fun k=>if isC a c k∨k=s then (0:Int) else 1) (g:=fun k=>if isC a c k then (0:Int) else 1) hs fun k hk hne=>by simp [hne]
 have e1:isC a c s=false:=by simp [isC,h0]
 simp only [e1,or_true,if_true] at hu
 have h3:0≤GH 8 (fun k=>if isC b c k then (0:Int) else 1):=by
  have:=KQ (n:=8) (f:=fun _=>0) (g:=fun k=>if isC b c k then (0:Int) else 1) fun k hk=>by split <;> simp
  rw [I5 (fun _ _=>rfl)] at this;exact this
 simp only [Bool.false_eq_true,if_false] at hu
 unfold KX;omega
theorem qN (col:List Int) (c:Int):KX col c≤8:=by
 have:GH 8 (fun k=>if isC col c k then (0:Int) else 1)≤GH 8 (fun _=>1):=KQ fun k hk=>by split <;> simp
 have e:GH 8 (fun _=>(1:Int))=8:=rfl
 unfold KX;omega
structure MV (os:List AG) (c m:Int) (cs col cs' col':List Int) (s:Nat):Prop where
 len:cs'.length=8∧col'.length=8
 f: ∀i,i<8→F64 (gI cs' i)
 KD: ∀k,k<8→gI col k=c→gI col' k=c
 only: ∀k,k<8→gI col' k≠c→gI col' k=gI col k
 got:gI col' s=c
 clo: ∀k,k<8→gI col' k=c→gI col k≠c→Reach os s k∧ ∀j∈BQ os k,gI col' j.toNat=c
 cnt: ∀i,i<8→gI cs' i=w64 (gI cs i+m*(S os (isC col' c) i-S os (isC col c) i))
theorem MV.refl {os:List AG} {c m:Int} {cs col:List Int} {s:Nat} (h1:cs.length=8) (h2:col.length=8) (hf: ∀i,i<8→F64 (gI cs i)) (hs:gI col s=c):MV os c m cs col cs col s:=
 ⟨⟨h1,h2⟩,hf,fun _ _ h=>h,fun _ _ _=>rfl,hs,fun _ _ h1 h2=>absurd h1 h2,fun i hi=>by rw [Int.sub_self,Int.mul_zero,Int.add_zero,I2 (hf i hi)]⟩
end Go.Proofs.Ytklmcfpgdfibnaa.P
