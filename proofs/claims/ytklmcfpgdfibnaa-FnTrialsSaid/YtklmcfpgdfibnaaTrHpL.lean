/- A part of the proof. -/
import Derived.Test.YtklmcfpgdfibnaaTrHpI
namespace Go.Proofs.Ytklmcfpgdfibnaa.P
open Go Go.Proofs.Ytklmcfpgdfibnaa Go.Proofs.Ytklmcfpgdfibnaa.Eng
set_option linter.unusedVariables false
set_option maxHeartbeats 4000000
set_option linter.unusedVariables false
set_option linter.unusedSimpArgs false
attribute [local irreducible] prP gP gE gF AX ixW ldc ldg ldl stc stg scW mkW apW BF cl2 BS DK CW
variable {w0:World}
def LY (n:Nat) (p:Nat→Bool):Int:=match (List.range n).find? p with
 | some i=>(i:Int)
 | none=> -1
theorem SQ {n i:Nat} {p:Nat→Bool} (hi:i<n) (h:p i=true) (hb: ∀k,k<i→p k=false):LY n p=i:=by
 have:(List.range n).find? p=some i:=List.find?_range_eq_some.2 ⟨h,List.mem_range.2 hi,fun j hj=>by rw [hb j hj];rfl⟩
 rw [LY,this]
theorem XH {n:Nat} {p:Nat→Bool} (hb: ∀k,k<n→p k=false):LY n p= -1:=by
 have:(List.range n).find? p=none:=List.find?_range_eq_none.2 fun j hj=>by rw [hb j hj];rfl
 rw [LY,this]
theorem QZ (n:Nat) (p:Nat→Bool):(LY n p= -1∧ ∀k,k<n→p k=false)∨ ∃i,i<n∧LY n p=(i:Int)∧p i=true∧ ∀k,k<i→p k=false:=by
 cases h:(List.range n).find? p with
 | none=>exact .inl ⟨by rw [LY,h],fun k hk=>by have:=List.find?_range_eq_none.1 h k hk;simpa using this⟩
 | some i=>
   obtain ⟨h1,h2,h3⟩:=List.find?_range_eq_some.1 h
   exact .inr ⟨i,List.mem_range.1 h2,by rw [LY,h],h1,fun k hk=>by have:=h3 k hk;simpa using this⟩
def K6 (os:List AG) (i:Nat):Bool:= !(ob os i).live&&decide ((ob os i).gen<999)
def CM (os:List AG):Int:=LY os.length (K6 os)
def I4 (ws:List Wk):Int:=LY ws.length fun i=> !(wk ws i).used
theorem S8 {os:List AG} {b c d:List T} {K:J2} (hol:os.length=8) (h:K [I (CM os)] []):cl2 ⟨Try.prog,w0⟩ 152 D6.sg [] [tR tO os,b,c,d] K:=by
 refine D6.cl2 ?_
 unfold D6.txt
 simp only [AJ,AT,AL,AR,AS,AE,AI,AU,AK,AN,AO,AQ,AM,AP,BJ,BO,BL,BM,BN,BP,BK,A9,A4,A6,A7,A8,A5]
 refine BG (fun i=>[iv i]) (fun _=>[]) os.length (fun i=> ∀k,k<i→K6 os k=false) rfl rfl (fun k hk=>by omega) (fun R i hi hP hR=> ?_)
 simp only [AJ,AT,AL,AR,AS,AE,AI,AU,AK,AN,AO,AQ,AM,AP,BJ,BO,BL,BM,BN,BP,BK,A9,A4,A6,A7,A8,A5]
 refine BA (BX (LD (fun hlt=> ?_) fun hge=> ?_))
 ·have hlt':i<os.length:=by omega
  refine BA (FG hlt rfl (EP (by omega) ?_))
  have no:K6 os i=false→R [iv (i+1)] []:=fun hn=>hR hlt' fun k hk=>(Nat.lt_succ_iff_lt_or_eq.1 hk).elim (hP k) fun he=>he ▸ hn
  have yes:K6 os i=true→K [iv i] []:=fun hy=>by unfold CM at h;rw [SQ hlt' hy hP] at h;exact h
  refine AH hlt' ?_
  cases hv:(ob os i).live with
  | false=>
    refine HZ (v:= .bool false) hlt' (by simp [tO,hv]) (CT ?_)
    repeat' (first | refine AH hlt' ?_ | refine HO (v:=I (ob os i).gen) hlt' (by decide) rfl ?_ | refine BX ?_ | refine JN ?_ | refine TA rfl ?_ | refine BA ?_ | refine BB (by omega) ?_ | refine AW (fun _=> ?_) (fun _=> ?_))
    ·exact yes (by simp [K6,hv];omega)
    ·exact no (by simp [K6,hv];omega)
  | true=>
    refine HZ (v:= .bool true) hlt' (by simp [tO,hv]) (CT ?_)
    repeat' (first | refine BX ?_ | refine IM ?_ | refine X6 rfl ?_ | refine CB ?_ | refine BB (by omega) ?_)
    all_goals exact no (by simp [K6,hv])
 ·refine FM hge rfl (CB ?_)
  have:i=os.length:=by omega
  subst this
  unfold CM at h
  rw [XH hP] at h;exact h
def I5 (g s:Int):AG:=⟨true,g,s,1,0,1,PF,false⟩
def H5 (os:List AG) (ss:List ByteArray) (s:ByteArray):List AG×List ByteArray×An:=
 if ¬(1≤(s.size:Int)∧(s.size:Int)≤8) then (os,ss,⟨2,0,[]⟩)
 else if CM os<0 then (os,ss,⟨3,0,[]⟩)
 else if at_ ss s<0∧6≤ss.length then (os,ss,⟨6,0,[]⟩)
 else (os.set (CM os).toNat (I5 (w64 ((ob os (CM os).toNat).gen+1)) (if at_ ss s<0 then ss.length else at_ ss s)),(if at_ ss s<0 then ss++[s] else ss),⟨0,CC (CM os) (w64 ((ob os (CM os).toNat).gen+1)),[]⟩)
theorem N4 {os:List AG} (h: ¬CM os<0):(CM os).toNat<os.length∧CM os=((CM os).toNat:Int)∧K6 os (CM os).toNat=true:=by
 rcases QZ os.length (K6 os) with ⟨h1,_⟩ | ⟨i,h1,h2,h3,_⟩
 ·unfold CM at h;omega
 ·have e:CM os=i:=h2
  have e2:(CM os).toNat=i:=by omega
  rw [e2];exact ⟨h1,e,h3⟩
theorem pF {l:List ByteArray} {x s:ByteArray} (h:x∉l):at_ (l++[x]) s=if x=s then (l.length:Int) else at_ l s:=by
 unfold at_
 by_cases hs:s∈l
 ·rw [if_pos (List.mem_append_left _ hs),if_pos hs,List.idxOf_append,if_pos hs,if_neg (show ¬x=s from fun he=>h (he ▸ hs))]
 ·by_cases hx:x=s
  ·rw [if_pos (by simp [hx]),if_pos hx,List.idxOf_append,if_neg hs]
   simp [hx]
  ·rw [if_neg (by simp [hs,Ne.symm hx]),if_neg hx,if_neg hs]
theorem UF {os:List AG} {b c:List T} {ss:List ByteArray} {s:ByteArray} {k1 k2 k3 k4:Int} {K:J2} (hol:os.length=8) (hss:LB ss) (h:K [I (H5 os ss s).2.2.code,I (H5 os ss s).2.2.val] [tR tO (H5 os ss s).1,tS (H5 os ss s).2.1,tI (H5 os ss s).2.2.freed]):cl2 ⟨Try.prog,w0⟩ 123 EU.sg [I k1,I k2,I k3,I k4, .string s] [tR tO os,b,c,tS ss] K:=by
 have hsl:=hss.len
 refine EU.cl2 ?_
 unfold EU.txt
 unfold H5 at h
 refine fI (DD (F8 (AW (fun hb=> ?_) fun hb=> ?_)))
 ·rw [if_pos hb] at h
  exact h
 rw [if_neg hb] at h
 refine S8 hol (BA (AW (fun hf=> ?_) fun hf=> ?_))
 ·rw [if_pos hf] at h
  exact h
 rw [if_neg hf] at h
 obtain ⟨f1,f2,f3⟩:=N4 hf
 refine BG (fun i=>[I (CM os),I (at_ (ss.take i) s),iv i,I k1,I k2,I k3,I k4, .string s,I 0,I 0]) (fun _=>[tR tO os,tS ss]) ss.length (fun i=>True) rfl rfl trivial (fun R i hi hP hR=> ?_)
 simp only [AJ,AT,AL,AR,AS,AE,AI,AU,AK,AN,AO,AQ,AM,AP,BJ,BO,BL,BM,BN,BP,BK,A9,A4,A6,A7,A8,A5]
 simp only [BK,rV,p9,sG]
 refine BA (AW (fun hlt=> ?_) fun hge=> ?_)
 ·have hlt:i<ss.length:=by omega
  replace hR:=hR hlt trivial
  have hone:=hss.one i hlt
  rw [List.take_succ_eq_append_getElem hlt,RF hlt,pF hone] at hR
  refine BT (AH hlt (ldS hlt (bG (AW (fun he=> ?_) fun he=> ?_))))
  ·rw [if_pos he,List.length_take,Nat.min_eq_left hi] at hR
   exact BB (by omega) hR
  ·rw [if_neg he] at hR
   exact BB (by omega) hR
 ·have:i=ss.length:=by omega
  subst this
  rw [List.take_length]
  refine BA ?_
  by_cases ha:at_ ss s<0
  ·by_cases h6:6≤ss.length
   ·rw [if_pos ⟨ha,h6⟩] at h
    repeat' (first | exact h | refine BX ?_ | refine JQ (by first | with_reducible assumption | omega) ?_ | refine FG (by first | with_reducible assumption | omega) rfl ?_ | refine EP (by first | with_reducible assumption | omega) ?_ | refine JJ ?_)
    all_goals omega
   ·rw [if_neg (by omega),if_pos ha,if_pos ha] at h
    refine BX (BX (BX (JQ ha (KA (FG ha rfl (D8 (by omega) (BT (BA (EP ha (EH rfl (by omega) ?_))))))))))
    repeat' (first | refine HW ?_ | refine G3 ?_ | refine SF (by omega) (by omega) ?_ | refine HO (by omega) (by decide) rfl ?_ | simp only [AJ,AT,AL,AR,AS,AE,AI,AU,AK,AN,AO,AQ,AM,AP,BJ,BO,BL,BM,BN,BP,BK,A9,A4,A6,A7,A8,A5])
    rw [←eY] at h
    exact PZ (y:=I5 (w64 ((ob os (CM os).toNat).gen+1)) ss.length) (by omega) rfl (FE h)
  ·rw [if_neg (by omega),if_neg ha,if_neg ha] at h
   refine BX (BX (BX (NB ha (FM ha rfl (CB (BT (BA (D8 (by omega) ?_))))))))
   repeat' (first | refine HW ?_ | refine G3 ?_ | refine SF (by omega) (by omega) ?_ | refine HO (by omega) (by decide) rfl ?_ | simp only [AJ,AT,AL,AR,AS,AE,AI,AU,AK,AN,AO,AQ,AM,AP,BJ,BO,BL,BM,BN,BP,BK,A9,A4,A6,A7,A8,A5])
   exact PZ (y:=I5 (w64 ((ob os (CM os).toNat).gen+1)) (at_ ss s)) (by omega) rfl (FE h)
def NS (r:List AG×List Int×List Int):List AG×List Int×An:=(r.1,r.2.1,⟨0,0,r.2.2⟩)
def G4 (os:List AG) (buf:List Int) (kind id:Int):List AG×List Int×An:=
 if AA os id<0 then (os,buf,⟨1,0,[]⟩) else
 if kind=2 then
  if (ob os (AA os id).toNat).holds=20 then (os,buf,⟨4,0,[]⟩) else (D5 (os.set (AA os id).toNat {ob os (AA os id).toNat with holds:=(ob os (AA os id).toNat).holds+1}) id,buf,⟨0,0,[]⟩)
 else if kind=5 then
  if (ob os (AA os id).toNat).roots=20 then (os,buf,⟨4,0,[]⟩) else (D5 (os.set (AA os id).toNat {ob os (AA os id).toNat with roots:=(ob os (AA os id).toNat).roots+1}) id,buf,⟨0,0,[]⟩)
 else if kind=3 then
  if (ob os (AA os id).toNat).holds=0 then (os,buf,⟨5,0,[]⟩) else NS (FP (os.set (AA os id).toNat {ob os (AA os id).toNat with holds:=(ob os (AA os id).toNat).holds-1}) buf [id])
 else
  if (ob os (AA os id).toNat).roots=0 then (os,buf,⟨5,0,[]⟩) else NS (FP (os.set (AA os id).toNat {ob os (AA os id).toNat with roots:=(ob os (AA os id).toNat).roots-1}) buf [id])
theorem sP {os:List AG} {k:Nat} {v:Int} {K:List T→Prop} (hk:k<os.length) (h:K (tR tO (os.set k {ob os k with holds:=v}))):stc (tR tO os) [] (AB (iv k)*8+3) (I v) K:=by
 rw [←DB hk] at h;exact iJ hk h
theorem sM {os:List AG} {k:Nat} {v:Int} {K:List T→Prop} (hk:k<os.length) (h:K (tR tO (os.set k {ob os k with roots:=v}))):stc (tR tO os) [] (AB (iv k)*8+4) (I v) K:=by
 rw [←DB hk] at h;exact RT hk (by decide) rfl rfl h
theorem St.set {h:Hp} {os:List AG} (st:St h) (hl:os.length=h.AD.length) (ho: ∀o∈os,OF o):St {h with AD:=os}:=⟨by have:=st.ol;simp only;omega,st.wl,st.sl,st.bl,ho,st.ss,st.wf,st.bf⟩
theorem WH {h:Hp} {kind id b c:Int} {s:ByteArray} {K:J2} (st:St h) (hid:F64 id) (hkd:kind=2∨kind=3∨kind=5∨kind=6) (hr: ∀i,(0≤(ob h.AD i).holds∧(ob h.AD i).holds≤20)∧(0≤(ob h.AD i).roots∧(ob h.AD i).roots≤20)) (hK:K [I (G4 h.AD h.buffer kind id).2.2.code,I (G4 h.AD h.buffer kind id).2.2.val] [tR tO (G4 h.AD h.buffer kind id).1,tR tW h.B3,tI (G4 h.AD h.buffer kind id).2.1,tS h.sites,tI (G4 h.AD h.buffer kind id).2.2.freed]):cl2 ⟨Try.prog,w0⟩ 124 FZ.sg [I kind,I id,I b,I c, .string s] (trees h) K:=by
 refine FZ.cl2 ?_
 unfold FZ.txt
 obtain ⟨os,ws,buf,ss⟩:=h
 have hol:os.length=8:=st.ol
 have hof: ∀o∈os,OF o:=st.of
 simp only at hr hK
 simp only [trees]
 simp only [AJ,AT,AL,AR,AS,AE,AI,AU,AK,AN,AO,AQ,AM,AP,BJ,BO,BL,BM,BN,BP,BK,A9,A4,A6,A7,A8,A5]
 unfold G4 at hK
 refine B2 hid (by omega) (BA (AW (fun hs=> ?_) fun hs=> ?_))
 ·rw [if_pos hs] at hK
  exact hK
 rw [if_neg hs] at hK
 have hkb:=BD (l:=os) (id:=id) (by omega)
 obtain ⟨k,hkk⟩: ∃k,(AA os id).toNat=k:=⟨_,rfl⟩
 have hkI:AA os id=(k:Int):=by omega
 rw [hkk] at hK hkb
 have hkl:k<os.length:=by omega
 have hrk:=hr k
 have ho:=hof _ (IS (l:=os) (i:=k) (by omega))
 obtain ⟨⟨r1,r2⟩,r3,r4⟩:=hrk
 rw [BJ,hkI]
 refine AH (by omega) (UZ hkl (BT (BT ?_)))
 simp only [pX,pH,pT,p6,pI,jN,pQ]
 have gn: ∀{os':List AG} {K:J2},os'.length=os.length→(∀o∈os',OF o)→K [] [tR tO (D5 os' id),tR tW ws,tI buf,tS ss]→cl2 ⟨Try.prog,w0⟩ 153 EO.sg [I id] [tR tO os',tR tW ws,tI buf,tS ss] K:=fun hl ho hk=>SP (St.set st hl ho) hid hk
 have ls: ∀{os':List AG} {K:J2},os'.length=os.length→(∀o∈os',OF o)→K [] [tR tO (FP os' buf [id]).1,tR tW ws,tI (FP os' buf [id]).2.1,tS ss,tI (FP os' buf [id]).2.2]→cl2 ⟨Try.prog,w0⟩ 154 FJ.sg [] [tR tO os',tR tW ws,tI buf,tS ss,tI [id]] K:=fun hl ho hk=>SG (St.set st hl ho) (by simp) (by simpa using hid) hk
 rcases hkd with rfl | rfl | rfl | rfl
 ·simp only [if_true] at hK
  by_cases h20:(ob os k).holds=20
  ·rw [if_pos h20] at hK
   repeat' (first | refine BX ?_ | refine JN ?_ | refine FG (by first | with_reducible assumption | omega) rfl ?_ | refine EP (by first | with_reducible assumption | omega) ?_ | refine JJ ?_ | refine BW ?_ | simp only [AJ,AT,AL,AR,AS,AE,AI,AU,AK,AN,AO,AQ,AM,AP,BJ,BO,BL,BM,BN,BP,BK,A9,A4,A6,A7,A8,A5])
   exact hK
  ·rw [if_neg h20] at hK
   repeat' (first | refine BT ?_ | refine BX ?_ | refine JN ?_ | refine IM ?_ | refine FG (by first | with_reducible assumption | omega) rfl ?_ | refine FM (by first | with_reducible assumption | omega) rfl ?_ | refine CQ ?_ | refine CB ?_ | refine D8 (by first | with_reducible assumption | omega) ?_ | refine JJ ?_ | refine BW ?_ | refine FY ⟨by omega,by omega⟩ ?_ | refine AH (by omega) ?_ | simp only [AJ,AT,AL,AR,AS,AE,AI,AU,AK,AN,AO,AQ,AM,AP,BJ,BO,BL,BM,BN,BP,BK,A9,A4,A6,A7,A8,A5])
   exact sP hkl (gn (by simp) (LX hof ⟨ho.gen,ho.len,ho.fld⟩) hK)
 ·simp only [if_neg (show ¬(3:Int)=2 by decide),if_neg (show ¬(3:Int)=5 by decide),if_true] at hK
  by_cases h20:(ob os k).holds=0
  ·rw [if_pos h20] at hK
   repeat' (first | refine BT ?_ | refine BX ?_ | refine JN ?_ | refine IM ?_ | refine FG (by first | with_reducible assumption | omega) rfl ?_ | refine FM (by first | with_reducible assumption | omega) rfl ?_ | refine CB ?_ | refine EP (by first | with_reducible assumption | omega) ?_ | refine BA ?_ | refine BW ?_ | simp only [AJ,AT,AL,AR,AS,AE,AI,AU,AK,AN,AO,AQ,AM,AP,BJ,BO,BL,BM,BN,BP,BK,A9,A4,A6,A7,A8,A5])
   exact hK
  ·rw [if_neg h20] at hK
   repeat' (first | refine BT ?_ | refine BX ?_ | refine JN ?_ | refine IM ?_ | refine FG (by first | with_reducible assumption | omega) rfl ?_ | refine FM (by first | with_reducible assumption | omega) rfl ?_ | refine CQ ?_ | refine CB ?_ | refine D8 (by first | with_reducible assumption | omega) ?_ | refine BA ?_ | refine BW ?_ | refine FY ⟨by omega,by omega⟩ ?_ | refine AH (by omega) ?_ | simp only [AJ,AT,AL,AR,AS,AE,AI,AU,AK,AN,AO,AQ,AM,AP,BJ,BO,BL,BM,BN,BP,BK,A9,A4,A6,A7,A8,A5])
   exact sP hkl (ls (by simp) (LX hof ⟨ho.gen,ho.len,ho.fld⟩) hK)
 ·simp only [if_neg (show ¬(5:Int)=2 by decide),if_true] at hK
  by_cases h20:(ob os k).roots=20
  ·rw [if_pos h20] at hK
   repeat' (first | refine BX ?_ | refine JN ?_ | refine IM ?_ | refine FG (by first | with_reducible assumption | omega) rfl ?_ | refine FM (by first | with_reducible assumption | omega) rfl ?_ | refine CB ?_ | refine EP (by first | with_reducible assumption | omega) ?_ | refine JJ ?_ | refine BW ?_ | simp only [AJ,AT,AL,AR,AS,AE,AI,AU,AK,AN,AO,AQ,AM,AP,BJ,BO,BL,BM,BN,BP,BK,A9,A4,A6,A7,A8,A5])
   exact hK
  ·rw [if_neg h20] at hK
   repeat' (first | refine BT ?_ | refine BX ?_ | refine JN ?_ | refine IM ?_ | refine FG (by first | with_reducible assumption | omega) rfl ?_ | refine FM (by first | with_reducible assumption | omega) rfl ?_ | refine CQ ?_ | refine CB ?_ | refine D8 (by first | with_reducible assumption | omega) ?_ | refine JJ ?_ | refine BW ?_ | refine FY ⟨by omega,by omega⟩ ?_ | refine AH (by omega) ?_ | simp only [AJ,AT,AL,AR,AS,AE,AI,AU,AK,AN,AO,AQ,AM,AP,BJ,BO,BL,BM,BN,BP,BK,A9,A4,A6,A7,A8,A5])
   exact sM hkl (gn (by simp) (LX hof ⟨ho.gen,ho.len,ho.fld⟩) hK)
 ·simp only [if_neg (show ¬(6:Int)=2 by decide),if_neg (show ¬(6:Int)=5 by decide),if_neg (show ¬(6:Int)=3 by decide)] at hK
  by_cases h20:(ob os k).roots=0
  ·rw [if_pos h20] at hK
   repeat' (first | refine BT ?_ | refine BX ?_ | refine JN ?_ | refine IM ?_ | refine FG (by first | with_reducible assumption | omega) rfl ?_ | refine FM (by first | with_reducible assumption | omega) rfl ?_ | refine CB ?_ | refine EP (by first | with_reducible assumption | omega) ?_ | refine BA ?_ | refine BW ?_ | simp only [AJ,AT,AL,AR,AS,AE,AI,AU,AK,AN,AO,AQ,AM,AP,BJ,BO,BL,BM,BN,BP,BK,A9,A4,A6,A7,A8,A5])
   exact hK
  ·rw [if_neg h20] at hK
   repeat' (first | refine BT ?_ | refine BX ?_ | refine JN ?_ | refine IM ?_ | refine FG (by first | with_reducible assumption | omega) rfl ?_ | refine FM (by first | with_reducible assumption | omega) rfl ?_ | refine CB ?_ | refine D8 (by first | with_reducible assumption | omega) ?_ | refine BA ?_ | refine BW ?_ | refine FY ⟨by omega,by omega⟩ ?_ | refine AH (by omega) ?_ | simp only [AJ,AT,AL,AR,AS,AE,AI,AU,AK,AN,AO,AQ,AM,AP,BJ,BO,BL,BM,BN,BP,BK,A9,A4,A6,A7,A8,A5])
   exact sM hkl (ls (by simp) (LX hof ⟨ho.gen,ho.len,ho.fld⟩) hK)
end Go.Proofs.Ytklmcfpgdfibnaa.P
namespace Go.Proofs.Ytklmcfpgdfibnaa.P
open Go Go.Proofs.Ytklmcfpgdfibnaa Go.Proofs.Ytklmcfpgdfibnaa.Eng
set_option linter.unusedVariables false
set_option maxHeartbeats 4000000
set_option linter.unusedVariables false
set_option linter.unusedSimpArgs false
attribute [local irreducible] prP gP gE gF AX ixW ldc ldg ldl stc stg scW mkW apW BF cl2 BS DK CW
variable {w0:World}
def I9 (os:List AG) (buf:List Int) (a b c:Int):List AG×List Int×An:=
 if AA os a<0∨(c≠ -1∧AA os c<0) then (os,buf,⟨1,0,[]⟩) else
 if ¬(0≤b∧b≤2) then (os,buf,⟨2,0,[]⟩) else
 if gI (ob os (AA os a).toNat).field b.toNat= -1 then
  ((D5 os c).set (AA os a).toNat {ob (D5 os c) (AA os a).toNat with field:=(ob os (AA os a).toNat).field.set b.toNat c},buf,⟨0,0,[]⟩)
 else NS (FP ((D5 os c).set (AA os a).toNat {ob (D5 os c) (AA os a).toNat with field:=(ob os (AA os a).toNat).field.set b.toNat c}) buf [gI (ob os (AA os a).toNat).field b.toNat])
theorem D4 {l:List AG} {i k:Nat} {o:AG} (hk:k<l.length):ob (l.set k o) i=if i=k then o else ob l i:=by
 unfold ob
 by_cases h:i=k
 ·subst h
  rw [if_pos rfl,List.getD_eq_getElem?_getD,List.getElem?_set_self hk];rfl
 ·rw [if_neg h,List.getD_eq_getElem?_getD,List.getElem?_set_ne (Ne.symm h),List.getD_eq_getElem?_getD]
theorem Z7 {os:List AG} {id:Int} {i:Nat}:(ob (D5 os id) i).live=(ob os i).live∧(ob (D5 os id) i).gen=(ob os i).gen∧(ob (D5 os id) i).site=(ob os i).site∧(ob (D5 os id) i).holds=(ob os i).holds∧(ob (D5 os id) i).roots=(ob os i).roots∧(ob (D5 os id) i).field=(ob os i).field∧(ob (D5 os id) i).purple=(ob os i).purple:=by
 unfold D5
 split
 ·exact ⟨rfl,rfl,rfl,rfl,rfl,rfl,rfl⟩
 ·have hk:=BD (l:=os) (id:=id) (by omega)
  rw [D4 (by omega)]
  split
  ·rename_i h;subst h;exact ⟨rfl,rfl,rfl,rfl,rfl,rfl,rfl⟩
  ·exact ⟨rfl,rfl,rfl,rfl,rfl,rfl,rfl⟩
theorem stF {os:List AG} {k j:Nat} {v:Int} {K:List T→Prop} (hk:k<os.length) (hj:j<(ob os k).field.length) (h:K (tR tO (os.set k {ob os k with field:=(ob os k).field.set j v}))):stc (tR tO os) [AB (iv k)*8+6] (AB (iv j)*1) (I v) K:=by
 rw [←DB hk] at h hj;exact iX hk hj h
theorem OF.put {o:AG} {m:List Int} (h:OF o) (hl:m.length=3) (hf: ∀x∈m,F64 x):OF {o with field:=m}:=⟨h.gen,hl,hf⟩
theorem TX {h:Hp} {a0 a1 a2 a3:Int} {s:ByteArray} {K:J2} (st:St h) (h1:F64 a1) (h3:F64 a3) (hfd: ∀i, ∀f∈(ob h.AD i).field,f= -1∨0≤f) (hK:K [I (I9 h.AD h.buffer a1 a2 a3).2.2.code,I (I9 h.AD h.buffer a1 a2 a3).2.2.val] [tR tO (I9 h.AD h.buffer a1 a2 a3).1,tR tW h.B3,tI (I9 h.AD h.buffer a1 a2 a3).2.1,tS h.sites,tI (I9 h.AD h.buffer a1 a2 a3).2.2.freed]):cl2 ⟨Try.prog,w0⟩ 125 EW.sg [I a0,I a1,I a2,I a3, .string s] (trees h) K:=by
 refine EW.cl2 ?_
 unfold EW.txt
 obtain ⟨os,ws,buf,ss⟩:=h
 have hol:os.length=8:=st.ol
 have hof: ∀o∈os,OF o:=st.of
 simp only at hK hfd
 simp only [trees]
 unfold I9 at hK
 have gn: ∀{K:J2},K [] [tR tO (D5 os a3),tR tW ws,tI buf,tS ss]→cl2 ⟨Try.prog,w0⟩ 153 EO.sg [I a3] [tR tO os,tR tW ws,tI buf,tS ss] K:=fun hk=>SP st h3 hk
 have ls: ∀{os':List AG} {x:Int} {K:J2},os'.length=os.length→(∀o∈os',OF o)→F64 x→K [] [tR tO (FP os' buf [x]).1,tR tW ws,tI (FP os' buf [x]).2.1,tS ss,tI (FP os' buf [x]).2.2]→cl2 ⟨Try.prog,w0⟩ 154 FJ.sg [] [tR tO os',tR tW ws,tI buf,tS ss,tI [x]] K:=fun hl ho hx hk=>SG (St.set st hl ho) (by simp) (by simpa using hx) hk
 refine B2 h1 (by omega) ?_
 by_cases hs:AA os a1<0
 ·rw [if_pos (.inl hs)] at hK
  repeat' (first | exact hK | refine BX ?_ | refine tJ ?_ | refine bV (by first | with_reducible assumption | omega) ?_ | refine SM (by first | with_reducible assumption | omega) ?_ | refine FG (by first | with_reducible assumption | omega) rfl ?_ | refine CQ ?_ | refine BA ?_)
 have hkb:=BD (l:=os) (id:=a1) (by omega)
 by_cases hc:a3≠ -1∧AA os a3<0
 ·obtain ⟨hc1,hc2⟩:=hc
  rw [if_pos (.inr ⟨hc1,hc2⟩)] at hK
  repeat' (first | refine B2 h3 (by omega) ?_ | exact hK | refine BX ?_ | refine ZK ?_ | refine Y7 (by first | with_reducible assumption | omega) ?_ | refine JQ (by first | with_reducible assumption | omega) ?_ | refine IZ (by first | with_reducible assumption | omega) ?_ | refine FG (by first | with_reducible assumption | omega) rfl ?_ | refine FM (by first | with_reducible assumption | omega) rfl ?_ | refine EP (by first | with_reducible assumption | omega) ?_ | refine BA ?_ | refine CI ?_)
 rw [if_neg (by omega)] at hK
 by_cases hb2: ¬(0≤a2∧a2≤2)
 ·rw [if_pos hb2] at hK
  repeat' (first | refine B2 h3 (by omega) ?_ | refine DD ?_ | exact hK | refine BX ?_ | refine ZK ?_ | refine Y7 (by first | with_reducible assumption | omega) ?_ | refine JQ (by first | with_reducible assumption | omega) ?_ | refine NB (by first | with_reducible assumption | omega) ?_ | refine IZ (by first | with_reducible assumption | omega) ?_ | refine FG (by first | with_reducible assumption | omega) rfl ?_ | refine FM (by first | with_reducible assumption | omega) rfl ?_ | refine CB ?_ | refine EP (by first | with_reducible assumption | omega) ?_ | refine D8 (by first | with_reducible assumption | omega) ?_ | refine BA ?_ | refine CI ?_ | refine F8 ?_ | refine LD (fun _=> ?_) (fun _=> ?_))
 rw [if_neg hb2] at hK
 obtain ⟨k,hkk⟩: ∃k,(AA os a1).toNat=k:=⟨_,rfl⟩
 have hkI:AA os a1=(k:Int):=by omega
 rw [hkk] at hK hkb
 obtain ⟨j,rfl⟩: ∃j:Nat,a2=j:=⟨a2.toNat,by omega⟩
 rw [Int.toNat_natCast] at hK
 have hkl:k<os.length:=by omega
 have ho:=hof _ (IS (l:=os) (i:=k) (by omega))
 obtain ⟨_,_,_,_,_,gf,_⟩:=Z7 (os:=os) (id:=a3) (i:=k)
 have gl:=XF os a3
 have gof:=jK (id:=a3) hof
 have jl:j<(ob os k).field.length:=by rw [ho.len];omega
 have hold:=hfd k _ (DU jl)
 rw [hkI]
 repeat' (first | refine B2 h3 (by omega) ?_ | refine DD ?_ | refine BX ?_ | refine ZK ?_ | refine jA ?_ | refine Q0 ?_ | refine JQ (by first | with_reducible assumption | omega) ?_ | refine NB (by first | with_reducible assumption | omega) ?_ | refine FG (by first | with_reducible assumption | omega) rfl ?_ | refine FM (by first | with_reducible assumption | omega) rfl ?_ | refine CB ?_ | refine D8 (by first | with_reducible assumption | omega) ?_ | refine BA ?_ | refine CI ?_ | refine F8 ?_ | refine AH (by omega) ?_ | refine P1 (by omega) ?_ | refine LD (fun _=> ?_) (fun _=> ?_) | simp only [AJ,AT,AL,AR,AS,AE,AI,AU,AK,AN,AO,AQ,AM,AP,BJ,BO,BL,BM,BN,BP,BK,A9,A4,A6,A7,A8,A5])
 all_goals
  refine AH (by rw [G6 (by omega),AE];exact jl) (KO (by omega) jl (BT ?_))
  simp only [AJ,AT,AL,AR,AS,AE,AI,AU,AK,AN,AO,AQ,AM,AP,BJ,BO,BL,BM,BN,BP,BK,A9,A4,A6,A7,A8,A5]
  refine KA (AW (fun hge=>gn ?_) fun hlt=> ?_)
  ·simp only [AJ,AT,AL,AR,AS,AE,AI,AU,AK,AN,AO,AQ,AM,AP,BJ,BO,BL,BM,BN,BP,BK,A9,A4,A6,A7,A8,A5]
   refine AH (by omega) (PU (f:=tO) (i:=k) (by omega) (by decide) rfl ?_)
   refine AH (by rw [G6 (by omega),AE,gf];exact jl) (stF (by omega) (by rw [gf];exact jl) ?_)
   rw [gf]
   refine BA (AW (fun he=> ?_) fun he=> ?_)
   ·rw [if_pos (by omega)] at hK;exact hK
   ·rw [if_neg (by omega)] at hK
    exact ls (by simpa using gl) (LX gof (OF.put (gof _ (IS (by omega))) (by rw [List.length_set];exact ho.len) fun x hx=>(List.mem_or_eq_of_mem_set hx).elim (ho.fld x) fun he=>he ▸ h3)) (ho.fld _ (DU jl)) hK
  ·have e0:D5 os a3=os:=by unfold D5;rw [if_pos];rw [EN (by omega)];decide
   rw [e0] at hK
   refine AH (by omega) (PU (f:=tO) (i:=k) (by omega) (by decide) rfl ?_)
   refine AH (by rw [G6 (by omega),AE];exact jl) (stF (by omega) jl ?_)
   refine BA (AW (fun he=> ?_) fun he=> ?_)
   ·rw [if_pos (by omega)] at hK;exact hK
   ·rw [if_neg (by omega)] at hK
    exact ls (by simp) (LX hof (OF.put ho (by rw [List.length_set];exact ho.len) fun x hx=>(List.mem_or_eq_of_mem_set hx).elim (ho.fld x) fun he=>he ▸ h3)) (ho.fld _ (DU jl)) hK
def OC (os:List AG) (ws:List Wk) (id:Int):List Wk×An:=
 if AA os id<0 then (ws,⟨1,0,[]⟩) else if I4 ws<0 then (ws,⟨3,0,[]⟩) else (ws.set (I4 ws).toNat ⟨true,id⟩,⟨0,I4 ws,[]⟩)
def IP (os:List AG) (ws:List Wk) (kind k:Int):List Wk×An:=
 if ¬(0≤k∧k≤(ws.length:Int)-1) then (ws,⟨2,0,[]⟩) else
 if (wk ws k.toNat).used=false then (ws,⟨2,0,[]⟩) else
 if kind=9 then (ws.set k.toNat ⟨false,0⟩,⟨0,0,[]⟩) else
 if AA os (wk ws k.toNat).target<0 then (ws,⟨0, -1,[]⟩) else (ws,⟨0,(wk ws k.toNat).target,[]⟩)
theorem gW {ws:List Wk} (h: ¬I4 ws<0):(I4 ws).toNat<ws.length∧I4 ws=((I4 ws).toNat:Int)∧(wk ws (I4 ws).toNat).used=false:=by
 rcases QZ ws.length (fun i=> !(wk ws i).used) with ⟨h1,_⟩ | ⟨i,h1,h2,h3,_⟩
 ·unfold I4 at h;omega
 ·have e:I4 ws=i:=h2
  have e2:(I4 ws).toNat=i:=by omega
  rw [e2];exact ⟨h1,e,by simpa using h3⟩
theorem V5 {os:List AG} {ws:List Wk} {cc d:List T} {kind k b c:Int} {s:ByteArray} {K:J2} (hol:os.length=8) (hwl:ws.length=8) (hk:F64 k) (hwf: ∀w∈ws,F64 w.target) (h7:kind=7→K [I (OC os ws k).2.code,I (OC os ws k).2.val] [tR tW (OC os ws k).1,tI (OC os ws k).2.freed]) (h:kind≠7→K [I (IP os ws kind k).2.code,I (IP os ws kind k).2.val] [tR tW (IP os ws kind k).1,tI (IP os ws kind k).2.freed]):cl2 ⟨Try.prog,w0⟩ 126 FV.sg [I kind,I k,I b,I c, .string s] [tR tO os,tR tW ws,cc,d] K:=by
 refine FV.cl2 ?_
 unfold FV.txt
 simp only [AJ,AT,AL,AR,AS,AE,AI,AU,AK,AN,AO,AQ,AM,AP,BJ,BO,BL,BM,BN,BP,BK,A9,A4,A6,A7,A8,A5]
 refine BW (AW (fun he=> ?_) fun he=> ?_)
 ·replace h:=h7 he
  clear h7
  unfold OC at h
  refine B2 hk (by omega) (BA (AW (fun hs=> ?_) fun hs=> ?_))
  ·rw [if_pos hs] at h;exact h
  rw [if_neg hs] at h
  refine BG (fun i=>[iv i,I kind,I k,I b,I c, .string s,I 0,I 0]) (fun _=>[tR tW ws]) ws.length (fun i=> ∀j,j<i→(!(wk ws j).used)=false) rfl rfl (fun k hk=>by omega) (fun R i hi hP hR=> ?_)
  simp only [AJ,AT,AL,AR,AS,AE,AI,AU,AK,AN,AO,AQ,AM,AP,BJ,BO,BL,BM,BN,BP,BK,A9,A4,A6,A7,A8,A5]
  refine BA (AW (fun hlt=> ?_) fun hge=> ?_)
  ·have hlt:i<ws.length:=by omega
   cases hv:(wk ws i).used with
   | false=>
     refine AH hlt (TM (v:= .bool false) hlt (by simp [tW,hv]) (CT (CQ (AH hlt ?_))))
     unfold I4 at h
     rw [SQ hlt (by rw [hv];rfl) hP,if_neg (by omega),Int.toNat_natCast] at h
     exact PZ (f:=tW) hlt (y:=⟨true,k⟩) rfl h
   | true=>
     refine AH hlt (TM (v:= .bool true) hlt (by simp [tW,hv]) (CT (CB (BB (by omega) (hR hlt fun k hk=> ?_)))))
     rcases Nat.lt_succ_iff_lt_or_eq.1 hk with h3 | rfl
     ·exact hP k h3
     ·rw [hv];rfl
  ·have:i=ws.length:=by omega
   subst this
   unfold I4 at h
   rw [XH hP,if_pos (by decide)] at h;exact h
 ·replace h:=h he
  clear h7
  unfold IP at h
  refine HJ ⟨by omega,by omega⟩ (DD (F8 ?_))
  by_cases hb: ¬(0≤k∧k≤(ws.length:Int)-1)
  ·rw [if_pos hb] at h
   repeat' (first | exact h | refine BX ?_ | refine SM (by first | with_reducible assumption | omega) ?_ | refine FG (by first | with_reducible assumption | omega) rfl ?_ | refine CQ ?_)
  rw [if_neg hb] at h
  obtain ⟨j,rfl⟩: ∃j:Nat,k=j:=⟨k.toNat,by omega⟩
  rw [Int.toNat_natCast] at h
  have jl:j<ws.length:=by omega
  have hw:=hwf _ (List.getElem_mem jl)
  rw [ZS jl] at hw
  cases hu:(wk ws j).used with
  | false=>
    rw [if_pos hu] at h
    repeat' (first | refine TM (v:= .bool false) jl (by simp [tW,hu]) ?_ | exact h | refine BX ?_ | refine IZ (by first | with_reducible assumption | omega) ?_ | refine FM (by first | with_reducible assumption | omega) rfl ?_ | refine CQ ?_ | refine AH (by omega) ?_ | refine CT ?_)
  | true=>
    rw [if_neg (by rw [hu];decide)] at h
    repeat' (first | refine TM (v:= .bool true) jl (by simp [tW,hu]) ?_ | refine B2 hw (by omega) ?_ | refine BX ?_ | refine IZ (by first | with_reducible assumption | omega) ?_ | refine FM (by first | with_reducible assumption | omega) rfl ?_ | refine CB ?_ | refine BA ?_ | refine BW ?_ | refine AH (by omega) ?_ | refine rH (by omega) (by decide) rfl ?_ | refine AW (fun _=> ?_) (fun _=> ?_) | refine CT ?_)
    ·rename_i hh
     rw [if_pos hh] at h
     exact PZ (f:=tW) jl (y:=⟨false,0⟩) rfl h
    ·rename_i hh hs
     rw [if_neg hh,if_pos hs] at h
     exact h
    ·rename_i hh hs
     rw [if_neg hh,if_neg hs] at h
     exact h
end Go.Proofs.Ytklmcfpgdfibnaa.P
namespace Go.Proofs.Ytklmcfpgdfibnaa.P
open Go Go.Proofs.Ytklmcfpgdfibnaa Go.Proofs.Ytklmcfpgdfibnaa.Eng
set_option linter.unusedVariables false
theorem mS (n:Int):w64 n=(n+9223372036854775808) % 18446744073709551616-9223372036854775808:=by
 simp only [w64,IntKind.wrap,IntKind.bits,IntKind.signed]
 simp
 split <;> omega
theorem LL (a b:Int):w64 (w64 a+b)=w64 (a+b):=by simp only [mS];omega
theorem fZ (a:Int):F64 (w64 a):=by rw [mS];exact ⟨by omega,by omega⟩
def DL:Nat→(Nat→Int)→Int
 | 0,_=>0
 | n+1,f=>DL n f+f n
theorem JX {n:Nat} {f g:Nat→Int} (h: ∀k,k<n→f k=g k):DL n f=DL n g:=by
 induction n with
 | zero=>rfl
 | succ n ih=>simp only [DL];rw [ih fun k hk=>h k (by omega),h n (by omega)]
theorem RV {n k0:Nat} {f g:Nat→Int} (hk:k0<n) (h: ∀k,k<n→k≠k0→f k=g k):DL n g=DL n f+(g k0-f k0):=by
 induction n with
 | zero=>omega
 | succ n ih=>
   simp only [DL]
   by_cases he:k0=n
   ·subst he
    rw [JX (g:=g) fun k hk=>h k (by omega) (by omega)];omega
   ·rw [ih (by omega) fun k hk hne=>h k (by omega) hne,h n (by omega) (by omega)];omega
theorem gZ {n:Nat} {f g:Nat→Int}:DL n (fun k=>f k+g k)=DL n f+DL n g:=by
 induction n with
 | zero=>rfl
 | succ n ih=>simp only [DL,ih];omega
theorem H4 {n:Nat} {f:Nat→Int} (h: ∀k,k<n→f k=0):DL n f=0:=by
 induction n with
 | zero=>rfl
 | succ n ih=>simp only [DL];rw [ih fun k hk=>h k (by omega),h n (by omega)];rfl
theorem JR {n:Nat} {f g:Nat→Int} (h: ∀k,k<n→f k≤g k):DL n f≤DL n g:=by
 induction n with
 | zero=>exact Int.le_refl _
 | succ n ih=>simp only [DL];have:=ih fun k hk=>h k (by omega);have:=h n (by omega);omega
theorem DP {l:List Int} {i k:Nat} {v:Int} (hk:k<l.length):gI (l.set k v) i=if i=k then v else gI l i:=by
 unfold gI
 by_cases h:i=k
 ·subst h
  rw [if_pos rfl,List.getD_eq_getElem?_getD,List.getElem?_set_self hk];rfl
 ·rw [if_neg h,List.getD_eq_getElem?_getD,List.getElem?_set_ne (Ne.symm h),List.getD_eq_getElem?_getD]
def BE (os:List AG) (k:Nat):List Int:=((ob os k).field.map (AA os)).filter fun x=>decide (0≤x)
def E (os:List AG) (k i:Nat):Int:=((BE os k).count (i:Int):Nat)
theorem B5 {os:List AG} {k:Nat} {x:Int} (h:x∈BE os k):0≤x∧x.toNat<8∧x=(x.toNat:Int)∧os.length=8∧(ob os x.toNat).live=true:=by
 obtain ⟨h1,h2⟩:=List.mem_filter.1 h
 obtain ⟨f,_,rfl⟩:=List.mem_map.1 h1
 have h2:0≤AA os f:=by simpa using h2
 have:=BD h2
 exact ⟨h2,this.2.2.2.1,by omega,this.1,this.2.2.2.2.1⟩
theorem K7 {os:List AG} (hof: ∀o∈os,OF o) {k:Nat} (hk:k<os.length):(BE os k).length≤3:=by
 have:=List.length_filter_le (fun x=>decide (0≤x)) ((ob os k).field.map (AA os))
 rw [List.length_map,(hof _ (IS hk)).len] at this
 exact this
theorem IW (os:List AG) (k i:Nat):0≤E os k i:=Int.natCast_nonneg _
theorem kQ {os:List AG} {k i:Nat} (h:(i:Int)∉BE os k):E os k i=0:=by
 unfold E;rw [List.count_eq_zero.2 h];rfl
inductive Reach (os:List AG) (s:Nat):Nat→Prop
 | refl:Reach os s s
 | step {k:Nat} {j:Int}:Reach os s k→j∈BE os k→Reach os s j.toNat
theorem Reach.trans {os:List AG} {a b c:Nat} (h:Reach os a b) (g:Reach os b c):Reach os a c:=by
 induction g with
 | refl=>exact h
 | step _ hj ih=>exact .step ih hj
theorem Reach.closed {os:List AG} {P:Nat→Prop} {s k:Nat} (h:Reach os s k) (hs:P s) (hc: ∀k,P k→ ∀j∈BE os k,P j.toNat):P k:=by
 induction h with
 | refl=>exact hs
 | step _ hj ih=>exact hc _ ih _ hj
theorem Reach.lt {os:List AG} {s k:Nat} (h:Reach os s k) (hs:s<8):k<8:=h.closed (P:=fun k=>k<8) hs fun _ _ _ hj=>(B5 hj).2.1
def S (os:List AG) (P:Nat→Bool) (i:Nat):Int:=DL 8 fun k=>if P k then E os k i else 0
theorem ZE {os:List AG} {P Q:Nat→Bool} {i:Nat} (h: ∀k,k<8→P k=Q k):S os P i=S os Q i:=JX fun k hk=>by rw [h k hk]
theorem lN {os:List AG} {P Q:Nat→Bool} {i k0:Nat} (hk:k0<8) (h0:P k0=false) (h1:Q k0=true) (h: ∀k,k<8→k≠k0→P k=Q k):S os Q i=S os P i+E os k0 i:=by
 unfold S
 rw [RV (n:=8) (f:=fun k=>if P k then E os k i else 0) (g:=fun k=>if Q k then E os k i else 0) hk fun k hk hne=>by rw [h k hk hne]]
 simp only [h0,h1];simp
theorem XZ {os:List AG} {P:Nat→Bool} {i:Nat}:S os P i+S os (fun k=> !P k) i=S os (fun _=>true) i:=by
 unfold S
 rw [←gZ]
 refine JX fun k hk=> ?_
 cases h:P k <;> simp [h]
def isC (col:List Int) (c:Int) (k:Nat):Bool:=decide (gI col k=c)
theorem O1 {col:List Int} {c:Int} {k s:Nat} (hs:s<col.length):isC (col.set s c) c k=(decide (k=s)||isC col c k):=by
 unfold isC
 rw [DP hs]
 by_cases h:k=s
 ·simp [h]
 ·simp [h]
def IF (col:List Int) (c:Int):Nat:=(DL 8 fun k=>if isC col c k then 0 else 1).toNat
theorem fQ {a b:List Int} {c:Int} (h: ∀k,k<8→gI a k=c→gI b k=c):IF b c≤IF a c:=by
 have:DL 8 (fun k=>if isC b c k then 0 else 1)≤DL 8 (fun k=>if isC a c k then 0 else 1):=JR fun k hk=>by
  by_cases h1:gI a k=c
  ·simp [isC,h1,h k hk h1]
  ·by_cases h3:gI b k=c <;> simp [isC,h1,h3]
 unfold IF;omega
theorem J7 {a b:List Int} {c:Int} {s:Nat} (hs:s<8) (h0:gI a s≠c) (h1:gI b s=c) (h: ∀k,k<8→gI a k=c→gI b k=c):IF b c<IF a c:=by
 have hle:DL 8 (fun k=>if isC b c k then 0 else 1)≤DL 8 (fun k=>if isC a c k∨k=s then 0 else 1):=JR fun k hk=>by
  by_cases h2:gI a k=c
  ·simp [isC,h2,h k hk h2]
  ·by_cases hks:k=s
   ·subst hks;simp [isC,h1]
   ·by_cases h3:gI b k=c <;> simp [isC,h2,h3,hks]
 have hu:=RV (n:=8) (k0:=s) (f:=fun k=>if isC a c k∨k=s then (0:Int) else 1) (g:=fun k=>if isC a c k then (0:Int) else 1) hs fun k hk hne=>by simp [hne]
 have e1:isC a c s=false:=by simp [isC,h0]
 simp only [e1,or_true,if_true] at hu
 have h3:0≤DL 8 (fun k=>if isC b c k then (0:Int) else 1):=by
  have:=JR (n:=8) (f:=fun _=>0) (g:=fun k=>if isC b c k then (0:Int) else 1) fun k hk=>by split <;> simp
  rw [H4 (fun _ _=>rfl)] at this;exact this
 simp only [Bool.false_eq_true,if_false] at hu
 unfold IF;omega
theorem RQ (col:List Int) (c:Int):IF col c≤8:=by
 have:DL 8 (fun k=>if isC col c k then (0:Int) else 1)≤DL 8 (fun _=>1):=JR fun k hk=>by split <;> simp
 have e:DL 8 (fun _=>(1:Int))=8:=rfl
 unfold IF;omega
structure IT (os:List AG) (c m:Int) (cs col cs' col':List Int) (s:Nat):Prop where
 len:cs'.length=8∧col'.length=8
 f: ∀i,i<8→F64 (gI cs' i)
 II: ∀k,k<8→gI col k=c→gI col' k=c
 only: ∀k,k<8→gI col' k≠c→gI col' k=gI col k
 got:gI col' s=c
 clo: ∀k,k<8→gI col' k=c→gI col k≠c→Reach os s k∧ ∀j∈BE os k,gI col' j.toNat=c
 cnt: ∀i,i<8→gI cs' i=w64 (gI cs i+m*(S os (isC col' c) i-S os (isC col c) i))
theorem IT.refl {os:List AG} {c m:Int} {cs col:List Int} {s:Nat} (h1:cs.length=8) (h2:col.length=8) (hf: ∀i,i<8→F64 (gI cs i)) (hs:gI col s=c):IT os c m cs col cs col s:=
 ⟨⟨h1,h2⟩,hf,fun _ _ h=>h,fun _ _ _=>rfl,hs,fun _ _ h1 h2=>absurd h1 h2,fun i hi=>by rw [Int.sub_self,Int.mul_zero,Int.add_zero,G8 (hf i hi)]⟩
end Go.Proofs.Ytklmcfpgdfibnaa.P
