/- A part of the proof. -/
import Derived.Test.YtklmcfpgdfibnaaGgHpI
namespace Go.Proofs.Ytklmcfpgdfibnaa.P
open Go Go.Proofs.Ytklmcfpgdfibnaa Go.Proofs.Ytklmcfpgdfibnaa.Eng
set_option linter.unusedVariables false
set_option maxHeartbeats 4000000
set_option linter.unusedVariables false
set_option linter.unusedSimpArgs false
attribute [local irreducible] prP gP gE gF AV ixW ldc ldg ldl stc stg scW mkW apW BC cl2 BS CU B1
variable {w0:World}
def MB (n:Nat) (p:Nat→Bool):Int:=match (List.range n).find? p with
 | some i=>(i:Int)
 | none=> -1
theorem TM {n i:Nat} {p:Nat→Bool} (hi:i<n) (h:p i=true) (hb: ∀k,k<i→p k=false):MB n p=i:=by
 have:(List.range n).find? p=some i:=List.find?_range_eq_some.2 ⟨h,List.mem_range.2 hi,fun j hj=>by rw [hb j hj];rfl⟩
 rw [MB,this]
theorem YI {n:Nat} {p:Nat→Bool} (hb: ∀k,k<n→p k=false):MB n p= -1:=by
 have:(List.range n).find? p=none:=List.find?_range_eq_none.2 fun j hj=>by rw [hb j hj];rfl
 rw [MB,this]
theorem RV (n:Nat) (p:Nat→Bool):(MB n p= -1∧ ∀k,k<n→p k=false)∨ ∃i,i<n∧MB n p=(i:Int)∧p i=true∧ ∀k,k<i→p k=false:=by
 cases h:(List.range n).find? p with
 | none=>exact .inl ⟨by rw [MB,h],fun k hk=>by have:=List.find?_range_eq_none.1 h k hk;simpa using this⟩
 | some i=>
   obtain ⟨h1,h2,h3⟩:=List.find?_range_eq_some.1 h
   exact .inr ⟨i,List.mem_range.1 h2,by rw [MB,h],h1,fun k hk=>by have:=h3 k hk;simpa using this⟩
def KX (os:List AG) (i:Nat):Bool:= !(ob os i).live&&decide ((ob os i).gen<999)
def CT (os:List AG):Int:=MB os.length (KX os)
def JT (ws:List Wk):Int:=MB ws.length fun i=> !(wk ws i).used
theorem TY {os:List AG} {b c d:List T} {K:J2} (hol:os.length=8) (h:K [I (CT os)] []):cl2 ⟨Try.prog,w0⟩ 152 EG.sg [] [tR tO os,b,c,d] K:=by
 refine EG.cl2 ?_
 unfold EG.txt
 simp only [AK,AO,AL,AM,AT,AE,AJ,AI,AR,AQ,AN,AU,AP,AS,BG,BO,BL,BN,BM,BP,BK,A5,A6,A8,AZ,A7,A4]
 refine BF (fun i=>[iv i]) (fun _=>[]) os.length (fun i=> ∀k,k<i→KX os k=false) rfl rfl (fun k hk=>by omega) (fun R i hi hP hR=> ?_)
 simp only [AK,AO,AL,AM,AT,AE,AJ,AI,AR,AQ,AN,AU,AP,AS,BG,BO,BL,BN,BM,BP,BK,A5,A6,A8,AZ,A7,A4]
 refine BA (BD (MU (fun hlt=> ?_) fun hge=> ?_))
 ·have hlt':i<os.length:=by omega
  refine BA (ER hlt rfl (FT (by omega) ?_))
  have no:KX os i=false→R [iv (i+1)] []:=fun hn=>hR hlt' fun k hk=>(Nat.lt_succ_iff_lt_or_eq.1 hk).elim (hP k) fun he=>he ▸ hn
  have yes:KX os i=true→K [iv i] []:=fun hy=>by unfold CT at h;rw [TM hlt' hy hP] at h;exact h
  refine AH hlt' ?_
  cases hv:(ob os i).live with
  | false=>
    refine LY (v:= .bool false) hlt' (by simp [tO,hv]) (CX ?_)
    repeat' (first | refine AH hlt' ?_ | refine KJ (v:=I (ob os i).gen) hlt' (by decide) rfl ?_ | refine BD ?_ | refine D6 ?_ | refine QM rfl ?_ | refine BA ?_ | refine BB (by omega) ?_ | refine A9 (fun _=> ?_) (fun _=> ?_))
    ·exact yes (by simp [KX,hv];omega)
    ·exact no (by simp [KX,hv];omega)
  | true=>
    refine LY (v:= .bool true) hlt' (by simp [tO,hv]) (CX ?_)
    repeat' (first | refine BD ?_ | refine DY ?_ | refine SO rfl ?_ | refine B4 ?_ | refine BB (by omega) ?_)
    all_goals exact no (by simp [KX,hv])
 ·refine EW hge rfl (B4 ?_)
  have:i=os.length:=by omega
  subst this
  unfold CT at h
  rw [YI hP] at h;exact h
def JM (g s:Int):AG:=⟨true,g,s,1,0,1,M5,false⟩
def IH (os:List AG) (ss:List ByteArray) (s:ByteArray):List AG×List ByteArray×An:=
 if ¬(1≤(s.size:Int)∧(s.size:Int)≤8) then (os,ss,⟨2,0,[]⟩)
 else if CT os<0 then (os,ss,⟨3,0,[]⟩)
 else if at_ ss s<0∧6≤ss.length then (os,ss,⟨6,0,[]⟩)
 else (os.set (CT os).toNat (JM (w64 ((ob os (CT os).toNat).gen+1)) (if at_ ss s<0 then ss.length else at_ ss s)),(if at_ ss s<0 then ss++[s] else ss),⟨0,CA (CT os) (w64 ((ob os (CT os).toNat).gen+1)),[]⟩)
theorem OZ {os:List AG} (h: ¬CT os<0):(CT os).toNat<os.length∧CT os=((CT os).toNat:Int)∧KX os (CT os).toNat=true:=by
 rcases RV os.length (KX os) with ⟨h1,_⟩ | ⟨i,h1,h2,h3,_⟩
 ·unfold CT at h;omega
 ·have e:CT os=i:=h2
  have e2:(CT os).toNat=i:=by omega
  rw [e2];exact ⟨h1,e,h3⟩
theorem rU {l:List ByteArray} {x s:ByteArray} (h:x∉l):at_ (l++[x]) s=if x=s then (l.length:Int) else at_ l s:=by
 unfold at_
 by_cases hs:s∈l
 ·rw [if_pos (List.mem_append_left _ hs),if_pos hs,List.idxOf_append,if_pos hs,if_neg (show ¬x=s from fun he=>h (he ▸ hs))]
 ·by_cases hx:x=s
  ·rw [if_pos (by simp [hx]),if_pos hx,List.idxOf_append,if_neg hs]
   simp [hx]
  ·rw [if_neg (by simp [hs,Ne.symm hx]),if_neg hx,if_neg hs]
theorem WR {os:List AG} {b c:List T} {ss:List ByteArray} {s:ByteArray} {k1 k2 k3 k4:Int} {K:J2} (hol:os.length=8) (hss:L4 ss) (h:K [I (IH os ss s).2.2.code,I (IH os ss s).2.2.val] [tR tO (IH os ss s).1,tS (IH os ss s).2.1,tI (IH os ss s).2.2.freed]):cl2 ⟨Try.prog,w0⟩ 123 E9.sg [I k1,I k2,I k3,I k4, .string s] [tR tO os,b,c,tS ss] K:=by
 have hsl:=hss.len
 refine E9.cl2 ?_
 unfold E9.txt
 unfold IH at h
 refine fO (DL (GI (A9 (fun hb=> ?_) fun hb=> ?_)))
 ·rw [if_pos hb] at h
  exact h
 rw [if_neg hb] at h
 refine TY hol (BA (A9 (fun hf=> ?_) fun hf=> ?_))
 ·rw [if_pos hf] at h
  exact h
 rw [if_neg hf] at h
 obtain ⟨f1,f2,f3⟩:=OZ hf
 refine BF (fun i=>[I (CT os),I (at_ (ss.take i) s),iv i,I k1,I k2,I k3,I k4, .string s,I 0,I 0]) (fun _=>[tR tO os,tS ss]) ss.length (fun i=>True) rfl rfl trivial (fun R i hi hP hR=> ?_)
 simp only [AK,AO,AL,AM,AT,AE,AJ,AI,AR,AQ,AN,AU,AP,AS,BG,BO,BL,BN,BM,BP,BK,A5,A6,A8,AZ,A7,A4]
 simp only [BK,tX,tC,s9]
 refine BA (A9 (fun hlt=> ?_) fun hge=> ?_)
 ·have hlt:i<ss.length:=by omega
  replace hR:=hR hlt trivial
  have hone:=hss.one i hlt
  rw [List.take_succ_eq_append_getElem hlt,RQ hlt,rU hone] at hR
  refine BX (AH hlt (ldS hlt (bQ (A9 (fun he=> ?_) fun he=> ?_))))
  ·rw [if_pos he,List.length_take,Nat.min_eq_left hi] at hR
   exact BB (by omega) hR
  ·rw [if_neg he] at hR
   exact BB (by omega) hR
 ·have:i=ss.length:=by omega
  subst this
  rw [List.take_length]
  refine BA ?_
  by_cases ha:at_ ss s<0
  ·by_cases h6:6≤ss.length
   ·rw [if_pos ⟨ha,h6⟩] at h
    repeat' (first | exact h | refine BD ?_ | refine HG (by first | with_reducible assumption | omega) ?_ | refine ER (by first | with_reducible assumption | omega) rfl ?_ | refine FT (by first | with_reducible assumption | omega) ?_ | refine J3 ?_)
    all_goals omega
   ·rw [if_neg (by omega),if_pos ha,if_pos ha] at h
    refine BD (BD (BD (HG ha (KQ (ER ha rfl (DP (by omega) (BX (BA (FT ha (D9 rfl (by omega) ?_))))))))))
    repeat' (first | refine IB ?_ | refine JB ?_ | refine TL (by omega) (by omega) ?_ | refine KJ (by omega) (by decide) rfl ?_ | simp only [AK,AO,AL,AM,AT,AE,AJ,AI,AR,AQ,AN,AU,AP,AS,BG,BO,BL,BN,BM,BP,BK,A5,A6,A8,AZ,A7,A4])
    rw [←gD] at h
    exact QW (y:=JM (w64 ((ob os (CT os).toNat).gen+1)) ss.length) (by omega) rfl (HN h)
  ·rw [if_neg (by omega),if_neg ha,if_neg ha] at h
   refine BD (BD (BD (KE ha (EW ha rfl (B4 (BX (BA (DP (by omega) ?_))))))))
   repeat' (first | refine IB ?_ | refine JB ?_ | refine TL (by omega) (by omega) ?_ | refine KJ (by omega) (by decide) rfl ?_ | simp only [AK,AO,AL,AM,AT,AE,AJ,AI,AR,AQ,AN,AU,AP,AS,BG,BO,BL,BN,BM,BP,BK,A5,A6,A8,AZ,A7,A4])
   exact QW (y:=JM (w64 ((ob os (CT os).toNat).gen+1)) (at_ ss s)) (by omega) rfl (HN h)
def N9 (r:List AG×List Int×List Int):List AG×List Int×An:=(r.1,r.2.1,⟨0,0,r.2.2⟩)
def HD (os:List AG) (buf:List Int) (kind id:Int):List AG×List Int×An:=
 if AA os id<0 then (os,buf,⟨1,0,[]⟩) else
 if kind=2 then
  if (ob os (AA os id).toNat).holds=20 then (os,buf,⟨4,0,[]⟩) else (EA (os.set (AA os id).toNat {ob os (AA os id).toNat with holds:=(ob os (AA os id).toNat).holds+1}) id,buf,⟨0,0,[]⟩)
 else if kind=5 then
  if (ob os (AA os id).toNat).roots=20 then (os,buf,⟨4,0,[]⟩) else (EA (os.set (AA os id).toNat {ob os (AA os id).toNat with roots:=(ob os (AA os id).toNat).roots+1}) id,buf,⟨0,0,[]⟩)
 else if kind=3 then
  if (ob os (AA os id).toNat).holds=0 then (os,buf,⟨5,0,[]⟩) else N9 (FJ (os.set (AA os id).toNat {ob os (AA os id).toNat with holds:=(ob os (AA os id).toNat).holds-1}) buf [id])
 else
  if (ob os (AA os id).toNat).roots=0 then (os,buf,⟨5,0,[]⟩) else N9 (FJ (os.set (AA os id).toNat {ob os (AA os id).toNat with roots:=(ob os (AA os id).toNat).roots-1}) buf [id])
theorem xX {os:List AG} {k:Nat} {v:Int} {K:List T→Prop} (hk:k<os.length) (h:K (tR tO (os.set k {ob os k with holds:=v}))):stc (tR tO os) [] (AB (iv k)*8+3) (I v) K:=by
 rw [←DB hk] at h;exact jP hk h
theorem xU {os:List AG} {k:Nat} {v:Int} {K:List T→Prop} (hk:k<os.length) (h:K (tR tO (os.set k {ob os k with roots:=v}))):stc (tR tO os) [] (AB (iv k)*8+4) (I v) K:=by
 rw [←DB hk] at h;exact S7 hk (by decide) rfl rfl h
theorem St.set {h:Hp} {os:List AG} (st:St h) (hl:os.length=h.AD.length) (ho: ∀o∈os,OF o):St {h with AD:=os}:=⟨by have:=st.ol;simp only;omega,st.wl,st.sl,st.bl,ho,st.ss,st.wf,st.bf⟩
theorem W3 {h:Hp} {kind id b c:Int} {s:ByteArray} {K:J2} (st:St h) (hid:F64 id) (hkd:kind=2∨kind=3∨kind=5∨kind=6) (hr: ∀i,(0≤(ob h.AD i).holds∧(ob h.AD i).holds≤20)∧(0≤(ob h.AD i).roots∧(ob h.AD i).roots≤20)) (hK:K [I (HD h.AD h.buffer kind id).2.2.code,I (HD h.AD h.buffer kind id).2.2.val] [tR tO (HD h.AD h.buffer kind id).1,tR tW h.B2,tI (HD h.AD h.buffer kind id).2.1,tS h.sites,tI (HD h.AD h.buffer kind id).2.2.freed]):cl2 ⟨Try.prog,w0⟩ 124 F6.sg [I kind,I id,I b,I c, .string s] (trees h) K:=by
 refine F6.cl2 ?_
 unfold F6.txt
 obtain ⟨os,ws,buf,ss⟩:=h
 have hol:os.length=8:=st.ol
 have hof: ∀o∈os,OF o:=st.of
 simp only at hr hK
 simp only [trees]
 simp only [AK,AO,AL,AM,AT,AE,AJ,AI,AR,AQ,AN,AU,AP,AS,BG,BO,BL,BN,BM,BP,BK,A5,A6,A8,AZ,A7,A4]
 unfold HD at hK
 refine B3 hid (by omega) (BA (A9 (fun hs=> ?_) fun hs=> ?_))
 ·rw [if_pos hs] at hK
  exact hK
 rw [if_neg hs] at hK
 have hkb:=BJ (l:=os) (id:=id) (by omega)
 obtain ⟨k,hkk⟩: ∃k,(AA os id).toNat=k:=⟨_,rfl⟩
 have hkI:AA os id=(k:Int):=by omega
 rw [hkk] at hK hkb
 have hkl:k<os.length:=by omega
 have hrk:=hr k
 have ho:=hof _ (I2 (l:=os) (i:=k) (by omega))
 obtain ⟨⟨r1,r2⟩,r3,r4⟩:=hrk
 rw [BG,hkI]
 refine AH (by omega) (WE hkl (BX (BX ?_)))
 simp only [lJ,oN,sS,sF,sM,sR,sN]
 have gn: ∀{os':List AG} {K:J2},os'.length=os.length→(∀o∈os',OF o)→K [] [tR tO (EA os' id),tR tW ws,tI buf,tS ss]→cl2 ⟨Try.prog,w0⟩ 153 EU.sg [I id] [tR tO os',tR tW ws,tI buf,tS ss] K:=fun hl ho hk=>TE (St.set st hl ho) hid hk
 have ls: ∀{os':List AG} {K:J2},os'.length=os.length→(∀o∈os',OF o)→K [] [tR tO (FJ os' buf [id]).1,tR tW ws,tI (FJ os' buf [id]).2.1,tS ss,tI (FJ os' buf [id]).2.2]→cl2 ⟨Try.prog,w0⟩ 154 FI.sg [] [tR tO os',tR tW ws,tI buf,tS ss,tI [id]] K:=fun hl ho hk=>TW (St.set st hl ho) (by simp) (by simpa using hid) hk
 rcases hkd with rfl | rfl | rfl | rfl
 ·simp only [if_true] at hK
  by_cases h20:(ob os k).holds=20
  ·rw [if_pos h20] at hK
   repeat' (first | refine BD ?_ | refine D6 ?_ | refine ER (by first | with_reducible assumption | omega) rfl ?_ | refine FT (by first | with_reducible assumption | omega) ?_ | refine J3 ?_ | refine BZ ?_ | simp only [AK,AO,AL,AM,AT,AE,AJ,AI,AR,AQ,AN,AU,AP,AS,BG,BO,BL,BN,BM,BP,BK,A5,A6,A8,AZ,A7,A4])
   exact hK
  ·rw [if_neg h20] at hK
   repeat' (first | refine BX ?_ | refine BD ?_ | refine D6 ?_ | refine DY ?_ | refine ER (by first | with_reducible assumption | omega) rfl ?_ | refine EW (by first | with_reducible assumption | omega) rfl ?_ | refine CG ?_ | refine B4 ?_ | refine DP (by first | with_reducible assumption | omega) ?_ | refine J3 ?_ | refine BZ ?_ | refine FY ⟨by omega,by omega⟩ ?_ | refine AH (by omega) ?_ | simp only [AK,AO,AL,AM,AT,AE,AJ,AI,AR,AQ,AN,AU,AP,AS,BG,BO,BL,BN,BM,BP,BK,A5,A6,A8,AZ,A7,A4])
   exact xX hkl (gn (by simp) (MG hof ⟨ho.gen,ho.len,ho.fld⟩) hK)
 ·simp only [if_neg (show ¬(3:Int)=2 by decide),if_neg (show ¬(3:Int)=5 by decide),if_true] at hK
  by_cases h20:(ob os k).holds=0
  ·rw [if_pos h20] at hK
   repeat' (first | refine BX ?_ | refine BD ?_ | refine D6 ?_ | refine DY ?_ | refine ER (by first | with_reducible assumption | omega) rfl ?_ | refine EW (by first | with_reducible assumption | omega) rfl ?_ | refine B4 ?_ | refine FT (by first | with_reducible assumption | omega) ?_ | refine BA ?_ | refine BZ ?_ | simp only [AK,AO,AL,AM,AT,AE,AJ,AI,AR,AQ,AN,AU,AP,AS,BG,BO,BL,BN,BM,BP,BK,A5,A6,A8,AZ,A7,A4])
   exact hK
  ·rw [if_neg h20] at hK
   repeat' (first | refine BX ?_ | refine BD ?_ | refine D6 ?_ | refine DY ?_ | refine ER (by first | with_reducible assumption | omega) rfl ?_ | refine EW (by first | with_reducible assumption | omega) rfl ?_ | refine CG ?_ | refine B4 ?_ | refine DP (by first | with_reducible assumption | omega) ?_ | refine BA ?_ | refine BZ ?_ | refine FY ⟨by omega,by omega⟩ ?_ | refine AH (by omega) ?_ | simp only [AK,AO,AL,AM,AT,AE,AJ,AI,AR,AQ,AN,AU,AP,AS,BG,BO,BL,BN,BM,BP,BK,A5,A6,A8,AZ,A7,A4])
   exact xX hkl (ls (by simp) (MG hof ⟨ho.gen,ho.len,ho.fld⟩) hK)
 ·simp only [if_neg (show ¬(5:Int)=2 by decide),if_true] at hK
  by_cases h20:(ob os k).roots=20
  ·rw [if_pos h20] at hK
   repeat' (first | refine BD ?_ | refine D6 ?_ | refine DY ?_ | refine ER (by first | with_reducible assumption | omega) rfl ?_ | refine EW (by first | with_reducible assumption | omega) rfl ?_ | refine B4 ?_ | refine FT (by first | with_reducible assumption | omega) ?_ | refine J3 ?_ | refine BZ ?_ | simp only [AK,AO,AL,AM,AT,AE,AJ,AI,AR,AQ,AN,AU,AP,AS,BG,BO,BL,BN,BM,BP,BK,A5,A6,A8,AZ,A7,A4])
   exact hK
  ·rw [if_neg h20] at hK
   repeat' (first | refine BX ?_ | refine BD ?_ | refine D6 ?_ | refine DY ?_ | refine ER (by first | with_reducible assumption | omega) rfl ?_ | refine EW (by first | with_reducible assumption | omega) rfl ?_ | refine CG ?_ | refine B4 ?_ | refine DP (by first | with_reducible assumption | omega) ?_ | refine J3 ?_ | refine BZ ?_ | refine FY ⟨by omega,by omega⟩ ?_ | refine AH (by omega) ?_ | simp only [AK,AO,AL,AM,AT,AE,AJ,AI,AR,AQ,AN,AU,AP,AS,BG,BO,BL,BN,BM,BP,BK,A5,A6,A8,AZ,A7,A4])
   exact xU hkl (gn (by simp) (MG hof ⟨ho.gen,ho.len,ho.fld⟩) hK)
 ·simp only [if_neg (show ¬(6:Int)=2 by decide),if_neg (show ¬(6:Int)=5 by decide),if_neg (show ¬(6:Int)=3 by decide)] at hK
  by_cases h20:(ob os k).roots=0
  ·rw [if_pos h20] at hK
   repeat' (first | refine BX ?_ | refine BD ?_ | refine D6 ?_ | refine DY ?_ | refine ER (by first | with_reducible assumption | omega) rfl ?_ | refine EW (by first | with_reducible assumption | omega) rfl ?_ | refine B4 ?_ | refine FT (by first | with_reducible assumption | omega) ?_ | refine BA ?_ | refine BZ ?_ | simp only [AK,AO,AL,AM,AT,AE,AJ,AI,AR,AQ,AN,AU,AP,AS,BG,BO,BL,BN,BM,BP,BK,A5,A6,A8,AZ,A7,A4])
   exact hK
  ·rw [if_neg h20] at hK
   repeat' (first | refine BX ?_ | refine BD ?_ | refine D6 ?_ | refine DY ?_ | refine ER (by first | with_reducible assumption | omega) rfl ?_ | refine EW (by first | with_reducible assumption | omega) rfl ?_ | refine B4 ?_ | refine DP (by first | with_reducible assumption | omega) ?_ | refine BA ?_ | refine BZ ?_ | refine FY ⟨by omega,by omega⟩ ?_ | refine AH (by omega) ?_ | simp only [AK,AO,AL,AM,AT,AE,AJ,AI,AR,AQ,AN,AU,AP,AS,BG,BO,BL,BN,BM,BP,BK,A5,A6,A8,AZ,A7,A4])
   exact xU hkl (ls (by simp) (MG hof ⟨ho.gen,ho.len,ho.fld⟩) hK)
end Go.Proofs.Ytklmcfpgdfibnaa.P
namespace Go.Proofs.Ytklmcfpgdfibnaa.P
open Go Go.Proofs.Ytklmcfpgdfibnaa Go.Proofs.Ytklmcfpgdfibnaa.Eng
set_option linter.unusedVariables false
set_option maxHeartbeats 4000000
set_option linter.unusedVariables false
set_option linter.unusedSimpArgs false
attribute [local irreducible] prP gP gE gF AV ixW ldc ldg ldl stc stg scW mkW apW BC cl2 BS CU B1
variable {w0:World}
def I9 (os:List AG) (buf:List Int) (a b c:Int):List AG×List Int×An:=
 if AA os a<0∨(c≠ -1∧AA os c<0) then (os,buf,⟨1,0,[]⟩) else
 if ¬(0≤b∧b≤2) then (os,buf,⟨2,0,[]⟩) else
 if gI (ob os (AA os a).toNat).field b.toNat= -1 then
  ((EA os c).set (AA os a).toNat {ob (EA os c) (AA os a).toNat with field:=(ob os (AA os a).toNat).field.set b.toNat c},buf,⟨0,0,[]⟩)
 else N9 (FJ ((EA os c).set (AA os a).toNat {ob (EA os c) (AA os a).toNat with field:=(ob os (AA os a).toNat).field.set b.toNat c}) buf [gI (ob os (AA os a).toNat).field b.toNat])
theorem DO {l:List AG} {i k:Nat} {o:AG} (hk:k<l.length):ob (l.set k o) i=if i=k then o else ob l i:=by
 unfold ob
 by_cases h:i=k
 ·subst h
  rw [if_pos rfl,List.getD_eq_getElem?_getD,List.getElem?_set_self hk];rfl
 ·rw [if_neg h,List.getD_eq_getElem?_getD,List.getElem?_set_ne (Ne.symm h),List.getD_eq_getElem?_getD]
theorem aN {os:List AG} {id:Int} {i:Nat}:(ob (EA os id) i).live=(ob os i).live∧(ob (EA os id) i).gen=(ob os i).gen∧(ob (EA os id) i).site=(ob os i).site∧(ob (EA os id) i).holds=(ob os i).holds∧(ob (EA os id) i).roots=(ob os i).roots∧(ob (EA os id) i).field=(ob os i).field∧(ob (EA os id) i).purple=(ob os i).purple:=by
 unfold EA
 split
 ·exact ⟨rfl,rfl,rfl,rfl,rfl,rfl,rfl⟩
 ·have hk:=BJ (l:=os) (id:=id) (by omega)
  rw [DO (by omega)]
  split
  ·rename_i h;subst h;exact ⟨rfl,rfl,rfl,rfl,rfl,rfl,rfl⟩
  ·exact ⟨rfl,rfl,rfl,rfl,rfl,rfl,rfl⟩
theorem stF {os:List AG} {k j:Nat} {v:Int} {K:List T→Prop} (hk:k<os.length) (hj:j<(ob os k).field.length) (h:K (tR tO (os.set k {ob os k with field:=(ob os k).field.set j v}))):stc (tR tO os) [AB (iv k)*8+6] (AB (iv j)*1) (I v) K:=by
 rw [←DB hk] at h hj;exact kK hk hj h
theorem OF.put {o:AG} {m:List Int} (h:OF o) (hl:m.length=3) (hf: ∀x∈m,F64 x):OF {o with field:=m}:=⟨h.gen,hl,hf⟩
theorem VT {h:Hp} {a0 a1 a2 a3:Int} {s:ByteArray} {K:J2} (st:St h) (h1:F64 a1) (h3:F64 a3) (hfd: ∀i, ∀f∈(ob h.AD i).field,f= -1∨0≤f) (hK:K [I (I9 h.AD h.buffer a1 a2 a3).2.2.code,I (I9 h.AD h.buffer a1 a2 a3).2.2.val] [tR tO (I9 h.AD h.buffer a1 a2 a3).1,tR tW h.B2,tI (I9 h.AD h.buffer a1 a2 a3).2.1,tS h.sites,tI (I9 h.AD h.buffer a1 a2 a3).2.2.freed]):cl2 ⟨Try.prog,w0⟩ 125 FC.sg [I a0,I a1,I a2,I a3, .string s] (trees h) K:=by
 refine FC.cl2 ?_
 unfold FC.txt
 obtain ⟨os,ws,buf,ss⟩:=h
 have hol:os.length=8:=st.ol
 have hof: ∀o∈os,OF o:=st.of
 simp only at hK hfd
 simp only [trees]
 unfold I9 at hK
 have gn: ∀{K:J2},K [] [tR tO (EA os a3),tR tW ws,tI buf,tS ss]→cl2 ⟨Try.prog,w0⟩ 153 EU.sg [I a3] [tR tO os,tR tW ws,tI buf,tS ss] K:=fun hk=>TE st h3 hk
 have ls: ∀{os':List AG} {x:Int} {K:J2},os'.length=os.length→(∀o∈os',OF o)→F64 x→K [] [tR tO (FJ os' buf [x]).1,tR tW ws,tI (FJ os' buf [x]).2.1,tS ss,tI (FJ os' buf [x]).2.2]→cl2 ⟨Try.prog,w0⟩ 154 FI.sg [] [tR tO os',tR tW ws,tI buf,tS ss,tI [x]] K:=fun hl ho hx hk=>TW (St.set st hl ho) (by simp) (by simpa using hx) hk
 refine B3 h1 (by omega) ?_
 by_cases hs:AA os a1<0
 ·rw [if_pos (.inl hs)] at hK
  repeat' (first | exact hK | refine BD ?_ | refine wW ?_ | refine fC (by first | with_reducible assumption | omega) ?_ | refine G9 (by first | with_reducible assumption | omega) ?_ | refine ER (by first | with_reducible assumption | omega) rfl ?_ | refine CG ?_ | refine BA ?_)
 have hkb:=BJ (l:=os) (id:=a1) (by omega)
 by_cases hc:a3≠ -1∧AA os a3<0
 ·obtain ⟨hc1,hc2⟩:=hc
  rw [if_pos (.inr ⟨hc1,hc2⟩)] at hK
  repeat' (first | refine B3 h3 (by omega) ?_ | exact hK | refine BD ?_ | refine aK ?_ | refine YZ (by first | with_reducible assumption | omega) ?_ | refine HG (by first | with_reducible assumption | omega) ?_ | refine EN (by first | with_reducible assumption | omega) ?_ | refine ER (by first | with_reducible assumption | omega) rfl ?_ | refine EW (by first | with_reducible assumption | omega) rfl ?_ | refine FT (by first | with_reducible assumption | omega) ?_ | refine BA ?_ | refine CY ?_)
 rw [if_neg (by omega)] at hK
 by_cases hb2: ¬(0≤a2∧a2≤2)
 ·rw [if_pos hb2] at hK
  repeat' (first | refine B3 h3 (by omega) ?_ | refine DL ?_ | exact hK | refine BD ?_ | refine aK ?_ | refine YZ (by first | with_reducible assumption | omega) ?_ | refine HG (by first | with_reducible assumption | omega) ?_ | refine KE (by first | with_reducible assumption | omega) ?_ | refine EN (by first | with_reducible assumption | omega) ?_ | refine ER (by first | with_reducible assumption | omega) rfl ?_ | refine EW (by first | with_reducible assumption | omega) rfl ?_ | refine B4 ?_ | refine FT (by first | with_reducible assumption | omega) ?_ | refine DP (by first | with_reducible assumption | omega) ?_ | refine BA ?_ | refine CY ?_ | refine GI ?_ | refine MU (fun _=> ?_) (fun _=> ?_))
 rw [if_neg hb2] at hK
 obtain ⟨k,hkk⟩: ∃k,(AA os a1).toNat=k:=⟨_,rfl⟩
 have hkI:AA os a1=(k:Int):=by omega
 rw [hkk] at hK hkb
 obtain ⟨j,rfl⟩: ∃j:Nat,a2=j:=⟨a2.toNat,by omega⟩
 rw [Int.toNat_natCast] at hK
 have hkl:k<os.length:=by omega
 have ho:=hof _ (I2 (l:=os) (i:=k) (by omega))
 obtain ⟨_,_,_,_,_,gf,_⟩:=aN (os:=os) (id:=a3) (i:=k)
 have gl:=YC os a3
 have gof:=l8 (id:=a3) hof
 have jl:j<(ob os k).field.length:=by rw [ho.len];omega
 have hold:=hfd k _ (CH jl)
 rw [hkI]
 repeat' (first | refine B3 h3 (by omega) ?_ | refine DL ?_ | refine BD ?_ | refine aK ?_ | refine o7 ?_ | refine H0 ?_ | refine HG (by first | with_reducible assumption | omega) ?_ | refine KE (by first | with_reducible assumption | omega) ?_ | refine ER (by first | with_reducible assumption | omega) rfl ?_ | refine EW (by first | with_reducible assumption | omega) rfl ?_ | refine B4 ?_ | refine DP (by first | with_reducible assumption | omega) ?_ | refine BA ?_ | refine CY ?_ | refine GI ?_ | refine AH (by omega) ?_ | refine S1 (by omega) ?_ | refine MU (fun _=> ?_) (fun _=> ?_) | simp only [AK,AO,AL,AM,AT,AE,AJ,AI,AR,AQ,AN,AU,AP,AS,BG,BO,BL,BN,BM,BP,BK,A5,A6,A8,AZ,A7,A4])
 all_goals
  refine AH (by rw [H6 (by omega),AE];exact jl) (MP (by omega) jl (BX ?_))
  simp only [AK,AO,AL,AM,AT,AE,AJ,AI,AR,AQ,AN,AU,AP,AS,BG,BO,BL,BN,BM,BP,BK,A5,A6,A8,AZ,A7,A4]
  refine KQ (A9 (fun hge=>gn ?_) fun hlt=> ?_)
  ·simp only [AK,AO,AL,AM,AT,AE,AJ,AI,AR,AQ,AN,AU,AP,AS,BG,BO,BL,BN,BM,BP,BK,A5,A6,A8,AZ,A7,A4]
   refine AH (by omega) (QH (f:=tO) (i:=k) (by omega) (by decide) rfl ?_)
   refine AH (by rw [H6 (by omega),AE,gf];exact jl) (stF (by omega) (by rw [gf];exact jl) ?_)
   rw [gf]
   refine BA (A9 (fun he=> ?_) fun he=> ?_)
   ·rw [if_pos (by omega)] at hK;exact hK
   ·rw [if_neg (by omega)] at hK
    exact ls (by simpa using gl) (MG gof (OF.put (gof _ (I2 (by omega))) (by rw [List.length_set];exact ho.len) fun x hx=>(List.mem_or_eq_of_mem_set hx).elim (ho.fld x) fun he=>he ▸ h3)) (ho.fld _ (CH jl)) hK
  ·have e0:EA os a3=os:=by unfold EA;rw [if_pos];rw [ET (by omega)];decide
   rw [e0] at hK
   refine AH (by omega) (QH (f:=tO) (i:=k) (by omega) (by decide) rfl ?_)
   refine AH (by rw [H6 (by omega),AE];exact jl) (stF (by omega) jl ?_)
   refine BA (A9 (fun he=> ?_) fun he=> ?_)
   ·rw [if_pos (by omega)] at hK;exact hK
   ·rw [if_neg (by omega)] at hK
    exact ls (by simp) (MG hof (OF.put ho (by rw [List.length_set];exact ho.len) fun x hx=>(List.mem_or_eq_of_mem_set hx).elim (ho.fld x) fun he=>he ▸ h3)) (ho.fld _ (CH jl)) hK
def OB (os:List AG) (ws:List Wk) (id:Int):List Wk×An:=
 if AA os id<0 then (ws,⟨1,0,[]⟩) else if JT ws<0 then (ws,⟨3,0,[]⟩) else (ws.set (JT ws).toNat ⟨true,id⟩,⟨0,JT ws,[]⟩)
def IX (os:List AG) (ws:List Wk) (kind k:Int):List Wk×An:=
 if ¬(0≤k∧k≤(ws.length:Int)-1) then (ws,⟨2,0,[]⟩) else
 if (wk ws k.toNat).used=false then (ws,⟨2,0,[]⟩) else
 if kind=9 then (ws.set k.toNat ⟨false,0⟩,⟨0,0,[]⟩) else
 if AA os (wk ws k.toNat).target<0 then (ws,⟨0, -1,[]⟩) else (ws,⟨0,(wk ws k.toNat).target,[]⟩)
theorem kD {ws:List Wk} (h: ¬JT ws<0):(JT ws).toNat<ws.length∧JT ws=((JT ws).toNat:Int)∧(wk ws (JT ws).toNat).used=false:=by
 rcases RV ws.length (fun i=> !(wk ws i).used) with ⟨h1,_⟩ | ⟨i,h1,h2,h3,_⟩
 ·unfold JT at h;omega
 ·have e:JT ws=i:=h2
  have e2:(JT ws).toNat=i:=by omega
  rw [e2];exact ⟨h1,e,by simpa using h3⟩
theorem W9 {os:List AG} {ws:List Wk} {cc d:List T} {kind k b c:Int} {s:ByteArray} {K:J2} (hol:os.length=8) (hwl:ws.length=8) (hk:F64 k) (hwf: ∀w∈ws,F64 w.target) (h7:kind=7→K [I (OB os ws k).2.code,I (OB os ws k).2.val] [tR tW (OB os ws k).1,tI (OB os ws k).2.freed]) (h:kind≠7→K [I (IX os ws kind k).2.code,I (IX os ws kind k).2.val] [tR tW (IX os ws kind k).1,tI (IX os ws kind k).2.freed]):cl2 ⟨Try.prog,w0⟩ 126 F5.sg [I kind,I k,I b,I c, .string s] [tR tO os,tR tW ws,cc,d] K:=by
 refine F5.cl2 ?_
 unfold F5.txt
 simp only [AK,AO,AL,AM,AT,AE,AJ,AI,AR,AQ,AN,AU,AP,AS,BG,BO,BL,BN,BM,BP,BK,A5,A6,A8,AZ,A7,A4]
 refine BZ (A9 (fun he=> ?_) fun he=> ?_)
 ·replace h:=h7 he
  clear h7
  unfold OB at h
  refine B3 hk (by omega) (BA (A9 (fun hs=> ?_) fun hs=> ?_))
  ·rw [if_pos hs] at h;exact h
  rw [if_neg hs] at h
  refine BF (fun i=>[iv i,I kind,I k,I b,I c, .string s,I 0,I 0]) (fun _=>[tR tW ws]) ws.length (fun i=> ∀j,j<i→(!(wk ws j).used)=false) rfl rfl (fun k hk=>by omega) (fun R i hi hP hR=> ?_)
  simp only [AK,AO,AL,AM,AT,AE,AJ,AI,AR,AQ,AN,AU,AP,AS,BG,BO,BL,BN,BM,BP,BK,A5,A6,A8,AZ,A7,A4]
  refine BA (A9 (fun hlt=> ?_) fun hge=> ?_)
  ·have hlt:i<ws.length:=by omega
   cases hv:(wk ws i).used with
   | false=>
     refine AH hlt (UC (v:= .bool false) hlt (by simp [tW,hv]) (CX (CG (AH hlt ?_))))
     unfold JT at h
     rw [TM hlt (by rw [hv];rfl) hP,if_neg (by omega),Int.toNat_natCast] at h
     exact QW (f:=tW) hlt (y:=⟨true,k⟩) rfl h
   | true=>
     refine AH hlt (UC (v:= .bool true) hlt (by simp [tW,hv]) (CX (B4 (BB (by omega) (hR hlt fun k hk=> ?_)))))
     rcases Nat.lt_succ_iff_lt_or_eq.1 hk with h3 | rfl
     ·exact hP k h3
     ·rw [hv];rfl
  ·have:i=ws.length:=by omega
   subst this
   unfold JT at h
   rw [YI hP,if_pos (by decide)] at h;exact h
 ·replace h:=h he
  clear h7
  unfold IX at h
  refine G4 ⟨by omega,by omega⟩ (DL (GI ?_))
  by_cases hb: ¬(0≤k∧k≤(ws.length:Int)-1)
  ·rw [if_pos hb] at h
   repeat' (first | exact h | refine BD ?_ | refine G9 (by first | with_reducible assumption | omega) ?_ | refine ER (by first | with_reducible assumption | omega) rfl ?_ | refine CG ?_)
  rw [if_neg hb] at h
  obtain ⟨j,rfl⟩: ∃j:Nat,k=j:=⟨k.toNat,by omega⟩
  rw [Int.toNat_natCast] at h
  have jl:j<ws.length:=by omega
  have hw:=hwf _ (List.getElem_mem jl)
  rw [bL jl] at hw
  cases hu:(wk ws j).used with
  | false=>
    rw [if_pos hu] at h
    repeat' (first | refine UC (v:= .bool false) jl (by simp [tW,hu]) ?_ | exact h | refine BD ?_ | refine EN (by first | with_reducible assumption | omega) ?_ | refine EW (by first | with_reducible assumption | omega) rfl ?_ | refine CG ?_ | refine AH (by omega) ?_ | refine CX ?_)
  | true=>
    rw [if_neg (by rw [hu];decide)] at h
    repeat' (first | refine UC (v:= .bool true) jl (by simp [tW,hu]) ?_ | refine B3 hw (by omega) ?_ | refine BD ?_ | refine EN (by first | with_reducible assumption | omega) ?_ | refine EW (by first | with_reducible assumption | omega) rfl ?_ | refine B4 ?_ | refine BA ?_ | refine BZ ?_ | refine AH (by omega) ?_ | refine vA (by omega) (by decide) rfl ?_ | refine A9 (fun _=> ?_) (fun _=> ?_) | refine CX ?_)
    ·rename_i hh
     rw [if_pos hh] at h
     exact QW (f:=tW) jl (y:=⟨false,0⟩) rfl h
    ·rename_i hh hs
     rw [if_neg hh,if_pos hs] at h
     exact h
    ·rename_i hh hs
     rw [if_neg hh,if_neg hs] at h
     exact h
end Go.Proofs.Ytklmcfpgdfibnaa.P
namespace Go.Proofs.Ytklmcfpgdfibnaa.P
open Go Go.Proofs.Ytklmcfpgdfibnaa Go.Proofs.Ytklmcfpgdfibnaa.Eng
set_option linter.unusedVariables false
theorem nE (n:Int):w64 n=(n+9223372036854775808) % 18446744073709551616-9223372036854775808:=by
 simp only [w64,IntKind.wrap,IntKind.bits,IntKind.signed]
 simp
 split <;> omega
theorem LO (a b:Int):w64 (w64 a+b)=w64 (a+b):=by simp only [nE];omega
theorem o4 (a:Int):F64 (w64 a):=by rw [nE];exact ⟨by omega,by omega⟩
def F7:Nat→(Nat→Int)→Int
 | 0,_=>0
 | n+1,f=>F7 n f+f n
theorem J9 {n:Nat} {f g:Nat→Int} (h: ∀k,k<n→f k=g k):F7 n f=F7 n g:=by
 induction n with
 | zero=>rfl
 | succ n ih=>simp only [F7];rw [ih fun k hk=>h k (by omega),h n (by omega)]
theorem SW {n k0:Nat} {f g:Nat→Int} (hk:k0<n) (h: ∀k,k<n→k≠k0→f k=g k):F7 n g=F7 n f+(g k0-f k0):=by
 induction n with
 | zero=>omega
 | succ n ih=>
   simp only [F7]
   by_cases he:k0=n
   ·subst he
    rw [J9 (g:=g) fun k hk=>h k (by omega) (by omega)];omega
   ·rw [ih (by omega) fun k hk hne=>h k (by omega) hne,h n (by omega) (by omega)];omega
theorem kW {n:Nat} {f g:Nat→Int}:F7 n (fun k=>f k+g k)=F7 n f+F7 n g:=by
 induction n with
 | zero=>rfl
 | succ n ih=>simp only [F7,ih];omega
theorem IM {n:Nat} {f:Nat→Int} (h: ∀k,k<n→f k=0):F7 n f=0:=by
 induction n with
 | zero=>rfl
 | succ n ih=>simp only [F7];rw [ih fun k hk=>h k (by omega),h n (by omega)];rfl
theorem KA {n:Nat} {f g:Nat→Int} (h: ∀k,k<n→f k≤g k):F7 n f≤F7 n g:=by
 induction n with
 | zero=>exact Int.le_refl _
 | succ n ih=>simp only [F7];have:=ih fun k hk=>h k (by omega);have:=h n (by omega);omega
theorem EO {l:List Int} {i k:Nat} {v:Int} (hk:k<l.length):gI (l.set k v) i=if i=k then v else gI l i:=by
 unfold gI
 by_cases h:i=k
 ·subst h
  rw [if_pos rfl,List.getD_eq_getElem?_getD,List.getElem?_set_self hk];rfl
 ·rw [if_neg h,List.getD_eq_getElem?_getD,List.getElem?_set_ne (Ne.symm h),List.getD_eq_getElem?_getD]
def BH (os:List AG) (k:Nat):List Int:=((ob os k).field.map (AA os)).filter fun x=>decide (0≤x)
def E (os:List AG) (k i:Nat):Int:=((BH os k).count (i:Int):Nat)
theorem B5 {os:List AG} {k:Nat} {x:Int} (h:x∈BH os k):0≤x∧x.toNat<8∧x=(x.toNat:Int)∧os.length=8∧(ob os x.toNat).live=true:=by
 obtain ⟨h1,h2⟩:=List.mem_filter.1 h
 obtain ⟨f,_,rfl⟩:=List.mem_map.1 h1
 have h2:0≤AA os f:=by simpa using h2
 have:=BJ h2
 exact ⟨h2,this.2.2.2.1,by omega,this.1,this.2.2.2.2.1⟩
theorem MX {os:List AG} (hof: ∀o∈os,OF o) {k:Nat} (hk:k<os.length):(BH os k).length≤3:=by
 have:=List.length_filter_le (fun x=>decide (0≤x)) ((ob os k).field.map (AA os))
 rw [List.length_map,(hof _ (I2 hk)).len] at this
 exact this
theorem OC (os:List AG) (k i:Nat):0≤E os k i:=Int.natCast_nonneg _
theorem vD {os:List AG} {k i:Nat} (h:(i:Int)∉BH os k):E os k i=0:=by
 unfold E;rw [List.count_eq_zero.2 h];rfl
inductive Reach (os:List AG) (s:Nat):Nat→Prop
 | refl:Reach os s s
 | step {k:Nat} {j:Int}:Reach os s k→j∈BH os k→Reach os s j.toNat
theorem Reach.trans {os:List AG} {a b c:Nat} (h:Reach os a b) (g:Reach os b c):Reach os a c:=by
 induction g with
 | refl=>exact h
 | step _ hj ih=>exact .step ih hj
theorem Reach.closed {os:List AG} {P:Nat→Prop} {s k:Nat} (h:Reach os s k) (hs:P s) (hc: ∀k,P k→ ∀j∈BH os k,P j.toNat):P k:=by
 induction h with
 | refl=>exact hs
 | step _ hj ih=>exact hc _ ih _ hj
theorem Reach.lt {os:List AG} {s k:Nat} (h:Reach os s k) (hs:s<8):k<8:=h.closed (P:=fun k=>k<8) hs fun _ _ _ hj=>(B5 hj).2.1
def S (os:List AG) (P:Nat→Bool) (i:Nat):Int:=F7 8 fun k=>if P k then E os k i else 0
theorem iC {os:List AG} {P Q:Nat→Bool} {i:Nat} (h: ∀k,k<8→P k=Q k):S os P i=S os Q i:=J9 fun k hk=>by rw [h k hk]
theorem nR {os:List AG} {P Q:Nat→Bool} {i k0:Nat} (hk:k0<8) (h0:P k0=false) (h1:Q k0=true) (h: ∀k,k<8→k≠k0→P k=Q k):S os Q i=S os P i+E os k0 i:=by
 unfold S
 rw [SW (n:=8) (f:=fun k=>if P k then E os k i else 0) (g:=fun k=>if Q k then E os k i else 0) hk fun k hk hne=>by rw [h k hk hne]]
 simp only [h0,h1];simp
theorem aA {os:List AG} {P:Nat→Bool} {i:Nat}:S os P i+S os (fun k=> !P k) i=S os (fun _=>true) i:=by
 unfold S
 rw [←kW]
 refine J9 fun k hk=> ?_
 cases h:P k <;> simp [h]
def isC (col:List Int) (c:Int) (k:Nat):Bool:=decide (gI col k=c)
theorem PE {col:List Int} {c:Int} {k s:Nat} (hs:s<col.length):isC (col.set s c) c k=(decide (k=s)||isC col c k):=by
 unfold isC
 rw [EO hs]
 by_cases h:k=s
 ·simp [h]
 ·simp [h]
def J6 (col:List Int) (c:Int):Nat:=(F7 8 fun k=>if isC col c k then 0 else 1).toNat
theorem fV {a b:List Int} {c:Int} (h: ∀k,k<8→gI a k=c→gI b k=c):J6 b c≤J6 a c:=by
 have:F7 8 (fun k=>if isC b c k then 0 else 1)≤F7 8 (fun k=>if isC a c k then 0 else 1):=KA fun k hk=>by
  by_cases h1:gI a k=c
  ·simp [isC,h1,h k hk h1]
  ·by_cases h3:gI b k=c <;> simp [isC,h1,h3]
 unfold J6;omega
theorem RL {a b:List Int} {c:Int} {s:Nat} (hs:s<8) (h0:gI a s≠c) (h1:gI b s=c) (h: ∀k,k<8→gI a k=c→gI b k=c):J6 b c<J6 a c:=by
 have hle:F7 8 (fun k=>if isC b c k then 0 else 1)≤F7 8 (fun k=>if isC a c k∨k=s then 0 else 1):=KA fun k hk=>by
  by_cases h2:gI a k=c
  ·simp [isC,h2,h k hk h2]
  ·by_cases hks:k=s
   ·subst hks;simp [isC,h1]
   ·by_cases h3:gI b k=c <;> simp [isC,h2,h3,hks]
 have hu:=SW (n:=8) (k0:=s) (f:=fun k=>if isC a c k∨k=s then (0:Int) else 1) (g:=fun k=>if isC a c k then (0:Int) else 1) hs fun k hk hne=>by simp [hne]
 have e1:isC a c s=false:=by simp [isC,h0]
 simp only [e1,or_true,if_true] at hu
 have h3:0≤F7 8 (fun k=>if isC b c k then (0:Int) else 1):=by
  have:=KA (n:=8) (f:=fun _=>0) (g:=fun k=>if isC b c k then (0:Int) else 1) fun k hk=>by split <;> simp
  rw [IM (fun _ _=>rfl)] at this;exact this
 simp only [Bool.false_eq_true,if_false] at hu
 unfold J6;omega
theorem pD (col:List Int) (c:Int):J6 col c≤8:=by
 have:F7 8 (fun k=>if isC col c k then (0:Int) else 1)≤F7 8 (fun _=>1):=KA fun k hk=>by split <;> simp
 have e:F7 8 (fun _=>(1:Int))=8:=rfl
 unfold J6;omega
structure MH (os:List AG) (c m:Int) (cs col cs' col':List Int) (s:Nat):Prop where
 len:cs'.length=8∧col'.length=8
 f: ∀i,i<8→F64 (gI cs' i)
 JR: ∀k,k<8→gI col k=c→gI col' k=c
 only: ∀k,k<8→gI col' k≠c→gI col' k=gI col k
 got:gI col' s=c
 clo: ∀k,k<8→gI col' k=c→gI col k≠c→Reach os s k∧ ∀j∈BH os k,gI col' j.toNat=c
 cnt: ∀i,i<8→gI cs' i=w64 (gI cs i+m*(S os (isC col' c) i-S os (isC col c) i))
theorem MH.refl {os:List AG} {c m:Int} {cs col:List Int} {s:Nat} (h1:cs.length=8) (h2:col.length=8) (hf: ∀i,i<8→F64 (gI cs i)) (hs:gI col s=c):MH os c m cs col cs col s:=
 ⟨⟨h1,h2⟩,hf,fun _ _ h=>h,fun _ _ _=>rfl,hs,fun _ _ h1 h2=>absurd h1 h2,fun i hi=>by rw [Int.sub_self,Int.mul_zero,Int.add_zero,JJ (hf i hi)]⟩
end Go.Proofs.Ytklmcfpgdfibnaa.P
