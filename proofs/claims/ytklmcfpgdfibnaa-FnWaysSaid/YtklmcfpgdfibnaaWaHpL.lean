/- A part of the proof. -/
import Derived.Test.YtklmcfpgdfibnaaWaHpI
namespace Go.Proofs.Ytklmcfpgdfibnaa.P
open Go Go.Proofs.Ytklmcfpgdfibnaa Go.Proofs.Ytklmcfpgdfibnaa.Eng
set_option linter.unusedVariables false
set_option maxHeartbeats 4000000
set_option linter.unusedVariables false
set_option linter.unusedSimpArgs false
attribute [local irreducible] prP gP gE gF AX ixW ldc ldg ldl stc stg scW mkW apW BE cl2 BK C2 CI
variable {w0:World}
def L9 (n:Nat) (p:Nat→Bool):Int:=match (List.range n).find? p with
 | some i=>(i:Int)
 | none=> -1
theorem S6 {n i:Nat} {p:Nat→Bool} (hi:i<n) (h:p i=true) (hb: ∀k,k<i→p k=false):L9 n p=i:=by
 have:(List.range n).find? p=some i:=List.find?_range_eq_some.2 ⟨h,List.mem_range.2 hi,fun j hj=>by rw [hb j hj];rfl⟩
 rw [L9,this]
theorem XN {n:Nat} {p:Nat→Bool} (hb: ∀k,k<n→p k=false):L9 n p= -1:=by
 have:(List.range n).find? p=none:=List.find?_range_eq_none.2 fun j hj=>by rw [hb j hj];rfl
 rw [L9,this]
theorem R1 (n:Nat) (p:Nat→Bool):(L9 n p= -1∧ ∀k,k<n→p k=false)∨ ∃i,i<n∧L9 n p=(i:Int)∧p i=true∧ ∀k,k<i→p k=false:=by
 cases h:(List.range n).find? p with
 | none=>exact .inl ⟨by rw [L9,h],fun k hk=>by have:=List.find?_range_eq_none.1 h k hk;simpa using this⟩
 | some i=>
   obtain ⟨h1,h2,h3⟩:=List.find?_range_eq_some.1 h
   exact .inr ⟨i,List.mem_range.1 h2,by rw [L9,h],h1,fun k hk=>by have:=h3 k hk;simpa using this⟩
def K8 (os:List AE) (i:Nat):Bool:= !(ob os i).live&&decide ((ob os i).gen<999)
def CT (os:List AE):Int:=L9 os.length (K8 os)
def JD (ws:List Wk):Int:=L9 ws.length fun i=> !(wk ws i).used
theorem TT {os:List AE} {b c d:List T} {K:J2} (hol:os.length=8) (h:K [I (CT os)] []):cl2 ⟨Try.prog,w0⟩ 152 D5.sg [] [tR tO os,b,c,d] K:=by
 refine D5.cl2 ?_
 unfold D5.txt
 simp only [AI,AU,AL,AR,AQ,AG,AJ,AK,AO,AP,AN,AT,AS,AM,BH,BP,BS,BM,BQ,BN,BL,A6,A5,A4,A7,A8,A9]
 refine BJ (fun i=>[iv i]) (fun _=>[]) os.length (fun i=> ∀k,k<i→K8 os k=false) rfl rfl (fun k hk=>by omega) (fun R i hi hP hR=> ?_)
 simp only [AI,AU,AL,AR,AQ,AG,AJ,AK,AO,AP,AN,AT,AS,AM,BH,BP,BS,BM,BQ,BN,BL,A6,A5,A4,A7,A8,A9]
 refine BA (BO (LP (fun hlt=> ?_) fun hge=> ?_))
 ·have hlt':i<os.length:=by omega
  refine BA (D9 hlt rfl (EK (by omega) ?_))
  have no:K8 os i=false→R [iv (i+1)] []:=fun hn=>hR hlt' fun k hk=>(Nat.lt_succ_iff_lt_or_eq.1 hk).elim (hP k) fun he=>he ▸ hn
  have yes:K8 os i=true→K [iv i] []:=fun hy=>by unfold CT at h;rw [S6 hlt' hy hP] at h;exact h
  refine AH hlt' ?_
  cases hv:(ob os i).live with
  | false=>
    refine KJ (v:= .bool false) hlt' (by simp [tO,hv]) (CN ?_)
    repeat' (first | refine AH hlt' ?_ | refine JG (v:=I (ob os i).gen) hlt' (by decide) rfl ?_ | refine BO ?_ | refine LN ?_ | refine TP rfl ?_ | refine BA ?_ | refine BB (by omega) ?_ | refine AZ (fun _=> ?_) (fun _=> ?_))
    ·exact yes (by simp [K8,hv];omega)
    ·exact no (by simp [K8,hv];omega)
  | true=>
    refine KJ (v:= .bool true) hlt' (by simp [tO,hv]) (CN ?_)
    repeat' (first | refine BO ?_ | refine JW ?_ | refine WW rfl ?_ | refine CE ?_ | refine BB (by omega) ?_)
    all_goals exact no (by simp [K8,hv])
 ·refine EC hge rfl (CE ?_)
  have:i=os.length:=by omega
  subst this
  unfold CT at h
  rw [XN hP] at h;exact h
def JI (g s:Int):AE:=⟨true,g,s,1,0,1,P2,false⟩
def H4 (os:List AE) (ss:List ByteArray) (s:ByteArray):List AE×List ByteArray×An:=
 if ¬(1≤(s.size:Int)∧(s.size:Int)≤8) then (os,ss,⟨2,0,[]⟩)
 else if CT os<0 then (os,ss,⟨3,0,[]⟩)
 else if at_ ss s<0∧6≤ss.length then (os,ss,⟨6,0,[]⟩)
 else (os.set (CT os).toNat (JI (w64 ((ob os (CT os).toNat).gen+1)) (if at_ ss s<0 then ss.length else at_ ss s)),(if at_ ss s<0 then ss++[s] else ss),⟨0,B6 (CT os) (w64 ((ob os (CT os).toNat).gen+1)),[]⟩)
theorem N9 {os:List AE} (h: ¬CT os<0):(CT os).toNat<os.length∧CT os=((CT os).toNat:Int)∧K8 os (CT os).toNat=true:=by
 rcases R1 os.length (K8 os) with ⟨h1,_⟩ | ⟨i,h1,h2,h3,_⟩
 ·unfold CT at h;omega
 ·have e:CT os=i:=h2
  have e2:(CT os).toNat=i:=by omega
  rw [e2];exact ⟨h1,e,h3⟩
theorem qH {l:List ByteArray} {x s:ByteArray} (h:x∉l):at_ (l++[x]) s=if x=s then (l.length:Int) else at_ l s:=by
 unfold at_
 by_cases hs:s∈l
 ·rw [if_pos (List.mem_append_left _ hs),if_pos hs,List.idxOf_append,if_pos hs,if_neg (show ¬x=s from fun he=>h (he ▸ hs))]
 ·by_cases hx:x=s
  ·rw [if_pos (by simp [hx]),if_pos hx,List.idxOf_append,if_neg hs]
   simp [hx]
  ·rw [if_neg (by simp [hs,Ne.symm hx]),if_neg hx,if_neg hs]
theorem U7 {os:List AE} {b c:List T} {ss:List ByteArray} {s:ByteArray} {k1 k2 k3 k4:Int} {K:J2} (hol:os.length=8) (hss:LY ss) (h:K [I (H4 os ss s).2.2.code,I (H4 os ss s).2.2.val] [tR tO (H4 os ss s).1,tS (H4 os ss s).2.1,tI (H4 os ss s).2.2.freed]):cl2 ⟨Try.prog,w0⟩ 123 ES.sg [I k1,I k2,I k3,I k4, .string s] [tR tO os,b,c,tS ss] K:=by
 have hsl:=hss.len
 refine ES.cl2 ?_
 unfold ES.txt
 unfold H4 at h
 refine eX (DI (FW (AZ (fun hb=> ?_) fun hb=> ?_)))
 ·rw [if_pos hb] at h
  exact h
 rw [if_neg hb] at h
 refine TT hol (BA (AZ (fun hf=> ?_) fun hf=> ?_))
 ·rw [if_pos hf] at h
  exact h
 rw [if_neg hf] at h
 obtain ⟨f1,f2,f3⟩:=N9 hf
 refine BJ (fun i=>[I (CT os),I (at_ (ss.take i) s),iv i,I k1,I k2,I k3,I k4, .string s,I 0,I 0]) (fun _=>[tR tO os,tS ss]) ss.length (fun i=>True) rfl rfl trivial (fun R i hi hP hR=> ?_)
 simp only [AI,AU,AL,AR,AQ,AG,AJ,AK,AO,AP,AN,AT,AS,AM,BH,BP,BS,BM,BQ,BN,BL,A6,A5,A4,A7,A8,A9]
 simp only [BL,s9,r6,rY]
 refine BA (AZ (fun hlt=> ?_) fun hge=> ?_)
 ·have hlt:i<ss.length:=by omega
  replace hR:=hR hlt trivial
  have hone:=hss.one i hlt
  rw [List.take_succ_eq_append_getElem hlt,RM hlt,qH hone] at hR
  refine BY (AH hlt (ldS hlt (cC (AZ (fun he=> ?_) fun he=> ?_))))
  ·rw [if_pos he,List.length_take,Nat.min_eq_left hi] at hR
   exact BB (by omega) hR
  ·rw [if_neg he] at hR
   exact BB (by omega) hR
 ·have:i=ss.length:=by omega
  subst this
  rw [List.take_length]
  refine BA ?_
  by_cases ha:at_ ss s<0
  ·by_cases h6:6≤ss.length
   ·rw [if_pos ⟨ha,h6⟩] at h
    repeat' (first | exact h | refine BO ?_ | refine IA (by first | with_reducible assumption | omega) ?_ | refine D9 (by first | with_reducible assumption | omega) rfl ?_ | refine EK (by first | with_reducible assumption | omega) ?_ | refine IJ ?_)
    all_goals omega
   ·rw [if_neg (by omega),if_pos ha,if_pos ha] at h
    refine BO (BO (BO (IA ha (HL (D9 ha rfl (FM (by omega) (BY (BA (EK ha (DW rfl (by omega) ?_))))))))))
    repeat' (first | refine HV ?_ | refine HG ?_ | refine S8 (by omega) (by omega) ?_ | refine JG (by omega) (by decide) rfl ?_ | simp only [AI,AU,AL,AR,AQ,AG,AJ,AK,AO,AP,AN,AT,AS,AM,BH,BP,BS,BM,BQ,BN,BL,A6,A5,A4,A7,A8,A9])
    rw [←iJ] at h
    exact QG (y:=JI (w64 ((ob os (CT os).toNat).gen+1)) ss.length) (by omega) rfl (GK h)
  ·rw [if_neg (by omega),if_neg ha,if_neg ha] at h
   refine BO (BO (BO (K3 ha (EC ha rfl (CE (BY (BA (FM (by omega) ?_))))))))
   repeat' (first | refine HV ?_ | refine HG ?_ | refine S8 (by omega) (by omega) ?_ | refine JG (by omega) (by decide) rfl ?_ | simp only [AI,AU,AL,AR,AQ,AG,AJ,AK,AO,AP,AN,AT,AS,AM,BH,BP,BS,BM,BQ,BN,BL,A6,A5,A4,A7,A8,A9])
   exact QG (y:=JI (w64 ((ob os (CT os).toNat).gen+1)) (at_ ss s)) (by omega) rfl (GK h)
def OU (r:List AE×List Int×List Int):List AE×List Int×An:=(r.1,r.2.1,⟨0,0,r.2.2⟩)
def G8 (os:List AE) (buf:List Int) (kind id:Int):List AE×List Int×An:=
 if AA os id<0 then (os,buf,⟨1,0,[]⟩) else
 if kind=2 then
  if (ob os (AA os id).toNat).holds=20 then (os,buf,⟨4,0,[]⟩) else (DZ (os.set (AA os id).toNat {ob os (AA os id).toNat with holds:=(ob os (AA os id).toNat).holds+1}) id,buf,⟨0,0,[]⟩)
 else if kind=5 then
  if (ob os (AA os id).toNat).roots=20 then (os,buf,⟨4,0,[]⟩) else (DZ (os.set (AA os id).toNat {ob os (AA os id).toNat with roots:=(ob os (AA os id).toNat).roots+1}) id,buf,⟨0,0,[]⟩)
 else if kind=3 then
  if (ob os (AA os id).toNat).holds=0 then (os,buf,⟨5,0,[]⟩) else OU (FH (os.set (AA os id).toNat {ob os (AA os id).toNat with holds:=(ob os (AA os id).toNat).holds-1}) buf [id])
 else
  if (ob os (AA os id).toNat).roots=0 then (os,buf,⟨5,0,[]⟩) else OU (FH (os.set (AA os id).toNat {ob os (AA os id).toNat with roots:=(ob os (AA os id).toNat).roots-1}) buf [id])
theorem wX {os:List AE} {k:Nat} {v:Int} {K:List T→Prop} (hk:k<os.length) (h:K (tR tO (os.set k {ob os k with holds:=v}))):stc (tR tO os) [] (AD (iv k)*8+3) (I v) K:=by
 rw [←DC hk] at h;exact jW hk h
theorem uZ {os:List AE} {k:Nat} {v:Int} {K:List T→Prop} (hk:k<os.length) (h:K (tR tO (os.set k {ob os k with roots:=v}))):stc (tR tO os) [] (AD (iv k)*8+4) (I v) K:=by
 rw [←DC hk] at h;exact SF hk (by decide) rfl rfl h
theorem St.set {h:Hp} {os:List AE} (st:St h) (hl:os.length=h.AB.length) (ho: ∀o∈os,OF o):St {h with AB:=os}:=⟨by have:=st.ol;simp only;omega,st.wl,st.sl,st.bl,ho,st.ss,st.wf,st.bf⟩
theorem WK {h:Hp} {kind id b c:Int} {s:ByteArray} {K:J2} (st:St h) (hid:F64 id) (hkd:kind=2∨kind=3∨kind=5∨kind=6) (hr: ∀i,(0≤(ob h.AB i).holds∧(ob h.AB i).holds≤20)∧(0≤(ob h.AB i).roots∧(ob h.AB i).roots≤20)) (hK:K [I (G8 h.AB h.buffer kind id).2.2.code,I (G8 h.AB h.buffer kind id).2.2.val] [tR tO (G8 h.AB h.buffer kind id).1,tR tW h.B2,tI (G8 h.AB h.buffer kind id).2.1,tS h.sites,tI (G8 h.AB h.buffer kind id).2.2.freed]):cl2 ⟨Try.prog,w0⟩ 124 FN.sg [I kind,I id,I b,I c, .string s] (trees h) K:=by
 refine FN.cl2 ?_
 unfold FN.txt
 obtain ⟨os,ws,buf,ss⟩:=h
 have hol:os.length=8:=st.ol
 have hof: ∀o∈os,OF o:=st.of
 simp only at hr hK
 simp only [trees]
 simp only [AI,AU,AL,AR,AQ,AG,AJ,AK,AO,AP,AN,AT,AS,AM,BH,BP,BS,BM,BQ,BN,BL,A6,A5,A4,A7,A8,A9]
 unfold G8 at hK
 refine BX hid (by omega) (BA (AZ (fun hs=> ?_) fun hs=> ?_))
 ·rw [if_pos hs] at hK
  exact hK
 rw [if_neg hs] at hK
 have hkb:=BF (l:=os) (id:=id) (by omega)
 obtain ⟨k,hkk⟩: ∃k,(AA os id).toNat=k:=⟨_,rfl⟩
 have hkI:AA os id=(k:Int):=by omega
 rw [hkk] at hK hkb
 have hkl:k<os.length:=by omega
 have hrk:=hr k
 have ho:=hof _ (IS (l:=os) (i:=k) (by omega))
 obtain ⟨⟨r1,r2⟩,r3,r4⟩:=hrk
 rw [BH,hkI]
 refine AH (by omega) (V9 hkl (BY (BY ?_)))
 simp only [rU,q9,rS,rC,rJ,rQ,rT]
 have gn: ∀{os':List AE} {K:J2},os'.length=os.length→(∀o∈os',OF o)→K [] [tR tO (DZ os' id),tR tW ws,tI buf,tS ss]→cl2 ⟨Try.prog,w0⟩ 153 EG.sg [I id] [tR tO os',tR tW ws,tI buf,tS ss] K:=fun hl ho hk=>TH (St.set st hl ho) hid hk
 have ls: ∀{os':List AE} {K:J2},os'.length=os.length→(∀o∈os',OF o)→K [] [tR tO (FH os' buf [id]).1,tR tW ws,tI (FH os' buf [id]).2.1,tS ss,tI (FH os' buf [id]).2.2]→cl2 ⟨Try.prog,w0⟩ 154 E9.sg [] [tR tO os',tR tW ws,tI buf,tS ss,tI [id]] K:=fun hl ho hk=>TD (St.set st hl ho) (by simp) (by simpa using hid) hk
 rcases hkd with rfl | rfl | rfl | rfl
 ·simp only [if_true] at hK
  by_cases h20:(ob os k).holds=20
  ·rw [if_pos h20] at hK
   repeat' (first | refine BO ?_ | refine LN ?_ | refine D9 (by first | with_reducible assumption | omega) rfl ?_ | refine EK (by first | with_reducible assumption | omega) ?_ | refine IJ ?_ | refine B1 ?_ | simp only [AI,AU,AL,AR,AQ,AG,AJ,AK,AO,AP,AN,AT,AS,AM,BH,BP,BS,BM,BQ,BN,BL,A6,A5,A4,A7,A8,A9])
   exact hK
  ·rw [if_neg h20] at hK
   repeat' (first | refine BY ?_ | refine BO ?_ | refine LN ?_ | refine JW ?_ | refine D9 (by first | with_reducible assumption | omega) rfl ?_ | refine EC (by first | with_reducible assumption | omega) rfl ?_ | refine CL ?_ | refine CE ?_ | refine FM (by first | with_reducible assumption | omega) ?_ | refine IJ ?_ | refine B1 ?_ | refine FR ⟨by omega,by omega⟩ ?_ | refine AH (by omega) ?_ | simp only [AI,AU,AL,AR,AQ,AG,AJ,AK,AO,AP,AN,AT,AS,AM,BH,BP,BS,BM,BQ,BN,BL,A6,A5,A4,A7,A8,A9])
   exact wX hkl (gn (by simp) (ME hof ⟨ho.gen,ho.len,ho.fld⟩) hK)
 ·simp only [if_neg (show ¬(3:Int)=2 by decide),if_neg (show ¬(3:Int)=5 by decide),if_true] at hK
  by_cases h20:(ob os k).holds=0
  ·rw [if_pos h20] at hK
   repeat' (first | refine BY ?_ | refine BO ?_ | refine LN ?_ | refine JW ?_ | refine D9 (by first | with_reducible assumption | omega) rfl ?_ | refine EC (by first | with_reducible assumption | omega) rfl ?_ | refine CE ?_ | refine EK (by first | with_reducible assumption | omega) ?_ | refine BA ?_ | refine B1 ?_ | simp only [AI,AU,AL,AR,AQ,AG,AJ,AK,AO,AP,AN,AT,AS,AM,BH,BP,BS,BM,BQ,BN,BL,A6,A5,A4,A7,A8,A9])
   exact hK
  ·rw [if_neg h20] at hK
   repeat' (first | refine BY ?_ | refine BO ?_ | refine LN ?_ | refine JW ?_ | refine D9 (by first | with_reducible assumption | omega) rfl ?_ | refine EC (by first | with_reducible assumption | omega) rfl ?_ | refine CL ?_ | refine CE ?_ | refine FM (by first | with_reducible assumption | omega) ?_ | refine BA ?_ | refine B1 ?_ | refine FR ⟨by omega,by omega⟩ ?_ | refine AH (by omega) ?_ | simp only [AI,AU,AL,AR,AQ,AG,AJ,AK,AO,AP,AN,AT,AS,AM,BH,BP,BS,BM,BQ,BN,BL,A6,A5,A4,A7,A8,A9])
   exact wX hkl (ls (by simp) (ME hof ⟨ho.gen,ho.len,ho.fld⟩) hK)
 ·simp only [if_neg (show ¬(5:Int)=2 by decide),if_true] at hK
  by_cases h20:(ob os k).roots=20
  ·rw [if_pos h20] at hK
   repeat' (first | refine BO ?_ | refine LN ?_ | refine JW ?_ | refine D9 (by first | with_reducible assumption | omega) rfl ?_ | refine EC (by first | with_reducible assumption | omega) rfl ?_ | refine CE ?_ | refine EK (by first | with_reducible assumption | omega) ?_ | refine IJ ?_ | refine B1 ?_ | simp only [AI,AU,AL,AR,AQ,AG,AJ,AK,AO,AP,AN,AT,AS,AM,BH,BP,BS,BM,BQ,BN,BL,A6,A5,A4,A7,A8,A9])
   exact hK
  ·rw [if_neg h20] at hK
   repeat' (first | refine BY ?_ | refine BO ?_ | refine LN ?_ | refine JW ?_ | refine D9 (by first | with_reducible assumption | omega) rfl ?_ | refine EC (by first | with_reducible assumption | omega) rfl ?_ | refine CL ?_ | refine CE ?_ | refine FM (by first | with_reducible assumption | omega) ?_ | refine IJ ?_ | refine B1 ?_ | refine FR ⟨by omega,by omega⟩ ?_ | refine AH (by omega) ?_ | simp only [AI,AU,AL,AR,AQ,AG,AJ,AK,AO,AP,AN,AT,AS,AM,BH,BP,BS,BM,BQ,BN,BL,A6,A5,A4,A7,A8,A9])
   exact uZ hkl (gn (by simp) (ME hof ⟨ho.gen,ho.len,ho.fld⟩) hK)
 ·simp only [if_neg (show ¬(6:Int)=2 by decide),if_neg (show ¬(6:Int)=5 by decide),if_neg (show ¬(6:Int)=3 by decide)] at hK
  by_cases h20:(ob os k).roots=0
  ·rw [if_pos h20] at hK
   repeat' (first | refine BY ?_ | refine BO ?_ | refine LN ?_ | refine JW ?_ | refine D9 (by first | with_reducible assumption | omega) rfl ?_ | refine EC (by first | with_reducible assumption | omega) rfl ?_ | refine CE ?_ | refine EK (by first | with_reducible assumption | omega) ?_ | refine BA ?_ | refine B1 ?_ | simp only [AI,AU,AL,AR,AQ,AG,AJ,AK,AO,AP,AN,AT,AS,AM,BH,BP,BS,BM,BQ,BN,BL,A6,A5,A4,A7,A8,A9])
   exact hK
  ·rw [if_neg h20] at hK
   repeat' (first | refine BY ?_ | refine BO ?_ | refine LN ?_ | refine JW ?_ | refine D9 (by first | with_reducible assumption | omega) rfl ?_ | refine EC (by first | with_reducible assumption | omega) rfl ?_ | refine CE ?_ | refine FM (by first | with_reducible assumption | omega) ?_ | refine BA ?_ | refine B1 ?_ | refine FR ⟨by omega,by omega⟩ ?_ | refine AH (by omega) ?_ | simp only [AI,AU,AL,AR,AQ,AG,AJ,AK,AO,AP,AN,AT,AS,AM,BH,BP,BS,BM,BQ,BN,BL,A6,A5,A4,A7,A8,A9])
   exact uZ hkl (ls (by simp) (ME hof ⟨ho.gen,ho.len,ho.fld⟩) hK)
end Go.Proofs.Ytklmcfpgdfibnaa.P
namespace Go.Proofs.Ytklmcfpgdfibnaa.P
open Go Go.Proofs.Ytklmcfpgdfibnaa Go.Proofs.Ytklmcfpgdfibnaa.Eng
set_option linter.unusedVariables false
set_option maxHeartbeats 4000000
set_option linter.unusedVariables false
set_option linter.unusedSimpArgs false
attribute [local irreducible] prP gP gE gF AX ixW ldc ldg ldl stc stg scW mkW apW BE cl2 BK C2 CI
variable {w0:World}
def JK (os:List AE) (buf:List Int) (a b c:Int):List AE×List Int×An:=
 if AA os a<0∨(c≠ -1∧AA os c<0) then (os,buf,⟨1,0,[]⟩) else
 if ¬(0≤b∧b≤2) then (os,buf,⟨2,0,[]⟩) else
 if gI (ob os (AA os a).toNat).field b.toNat= -1 then
  ((DZ os c).set (AA os a).toNat {ob (DZ os c) (AA os a).toNat with field:=(ob os (AA os a).toNat).field.set b.toNat c},buf,⟨0,0,[]⟩)
 else OU (FH ((DZ os c).set (AA os a).toNat {ob (DZ os c) (AA os a).toNat with field:=(ob os (AA os a).toNat).field.set b.toNat c}) buf [gI (ob os (AA os a).toNat).field b.toNat])
theorem DY {l:List AE} {i k:Nat} {o:AE} (hk:k<l.length):ob (l.set k o) i=if i=k then o else ob l i:=by
 unfold ob
 by_cases h:i=k
 ·subst h
  rw [if_pos rfl,List.getD_eq_getElem?_getD,List.getElem?_set_self hk];rfl
 ·rw [if_neg h,List.getD_eq_getElem?_getD,List.getElem?_set_ne (Ne.symm h),List.getD_eq_getElem?_getD]
theorem bU {os:List AE} {id:Int} {i:Nat}:(ob (DZ os id) i).live=(ob os i).live∧(ob (DZ os id) i).gen=(ob os i).gen∧(ob (DZ os id) i).site=(ob os i).site∧(ob (DZ os id) i).holds=(ob os i).holds∧(ob (DZ os id) i).roots=(ob os i).roots∧(ob (DZ os id) i).field=(ob os i).field∧(ob (DZ os id) i).purple=(ob os i).purple:=by
 unfold DZ
 split
 ·exact ⟨rfl,rfl,rfl,rfl,rfl,rfl,rfl⟩
 ·have hk:=BF (l:=os) (id:=id) (by omega)
  rw [DY (by omega)]
  split
  ·rename_i h;subst h;exact ⟨rfl,rfl,rfl,rfl,rfl,rfl,rfl⟩
  ·exact ⟨rfl,rfl,rfl,rfl,rfl,rfl,rfl⟩
theorem stF {os:List AE} {k j:Nat} {v:Int} {K:List T→Prop} (hk:k<os.length) (hj:j<(ob os k).field.length) (h:K (tR tO (os.set k {ob os k with field:=(ob os k).field.set j v}))):stc (tR tO os) [AD (iv k)*8+6] (AD (iv j)*1) (I v) K:=by
 rw [←DC hk] at h hj;exact jA hk hj h
theorem OF.put {o:AE} {m:List Int} (h:OF o) (hl:m.length=3) (hf: ∀x∈m,F64 x):OF {o with field:=m}:=⟨h.gen,hl,hf⟩
theorem VH {h:Hp} {a0 a1 a2 a3:Int} {s:ByteArray} {K:J2} (st:St h) (h1:F64 a1) (h3:F64 a3) (hfd: ∀i, ∀f∈(ob h.AB i).field,f= -1∨0≤f) (hK:K [I (JK h.AB h.buffer a1 a2 a3).2.2.code,I (JK h.AB h.buffer a1 a2 a3).2.2.val] [tR tO (JK h.AB h.buffer a1 a2 a3).1,tR tW h.B2,tI (JK h.AB h.buffer a1 a2 a3).2.1,tS h.sites,tI (JK h.AB h.buffer a1 a2 a3).2.2.freed]):cl2 ⟨Try.prog,w0⟩ 125 ER.sg [I a0,I a1,I a2,I a3, .string s] (trees h) K:=by
 refine ER.cl2 ?_
 unfold ER.txt
 obtain ⟨os,ws,buf,ss⟩:=h
 have hol:os.length=8:=st.ol
 have hof: ∀o∈os,OF o:=st.of
 simp only at hK hfd
 simp only [trees]
 unfold JK at hK
 have gn: ∀{K:J2},K [] [tR tO (DZ os a3),tR tW ws,tI buf,tS ss]→cl2 ⟨Try.prog,w0⟩ 153 EG.sg [I a3] [tR tO os,tR tW ws,tI buf,tS ss] K:=fun hk=>TH st h3 hk
 have ls: ∀{os':List AE} {x:Int} {K:J2},os'.length=os.length→(∀o∈os',OF o)→F64 x→K [] [tR tO (FH os' buf [x]).1,tR tW ws,tI (FH os' buf [x]).2.1,tS ss,tI (FH os' buf [x]).2.2]→cl2 ⟨Try.prog,w0⟩ 154 E9.sg [] [tR tO os',tR tW ws,tI buf,tS ss,tI [x]] K:=fun hl ho hx hk=>TD (St.set st hl ho) (by simp) (by simpa using hx) hk
 refine BX h1 (by omega) ?_
 by_cases hs:AA os a1<0
 ·rw [if_pos (.inl hs)] at hK
  repeat' (first | exact hK | refine BO ?_ | refine wB ?_ | refine c7 (by first | with_reducible assumption | omega) ?_ | refine IK (by first | with_reducible assumption | omega) ?_ | refine D9 (by first | with_reducible assumption | omega) rfl ?_ | refine CL ?_ | refine BA ?_)
 have hkb:=BF (l:=os) (id:=a1) (by omega)
 by_cases hc:a3≠ -1∧AA os a3<0
 ·obtain ⟨hc1,hc2⟩:=hc
  rw [if_pos (.inr ⟨hc1,hc2⟩)] at hK
  repeat' (first | refine BX h3 (by omega) ?_ | exact hK | refine BO ?_ | refine Z1 ?_ | refine YM (by first | with_reducible assumption | omega) ?_ | refine IA (by first | with_reducible assumption | omega) ?_ | refine DU (by first | with_reducible assumption | omega) ?_ | refine D9 (by first | with_reducible assumption | omega) rfl ?_ | refine EC (by first | with_reducible assumption | omega) rfl ?_ | refine EK (by first | with_reducible assumption | omega) ?_ | refine BA ?_ | refine C8 ?_)
 rw [if_neg (by omega)] at hK
 by_cases hb2: ¬(0≤a2∧a2≤2)
 ·rw [if_pos hb2] at hK
  repeat' (first | refine BX h3 (by omega) ?_ | refine DI ?_ | exact hK | refine BO ?_ | refine Z1 ?_ | refine YM (by first | with_reducible assumption | omega) ?_ | refine IA (by first | with_reducible assumption | omega) ?_ | refine K3 (by first | with_reducible assumption | omega) ?_ | refine DU (by first | with_reducible assumption | omega) ?_ | refine D9 (by first | with_reducible assumption | omega) rfl ?_ | refine EC (by first | with_reducible assumption | omega) rfl ?_ | refine CE ?_ | refine EK (by first | with_reducible assumption | omega) ?_ | refine FM (by first | with_reducible assumption | omega) ?_ | refine BA ?_ | refine C8 ?_ | refine FW ?_ | refine LP (fun _=> ?_) (fun _=> ?_))
 rw [if_neg hb2] at hK
 obtain ⟨k,hkk⟩: ∃k,(AA os a1).toNat=k:=⟨_,rfl⟩
 have hkI:AA os a1=(k:Int):=by omega
 rw [hkk] at hK hkb
 obtain ⟨j,rfl⟩: ∃j:Nat,a2=j:=⟨a2.toNat,by omega⟩
 rw [Int.toNat_natCast] at hK
 have hkl:k<os.length:=by omega
 have ho:=hof _ (IS (l:=os) (i:=k) (by omega))
 obtain ⟨_,_,_,_,_,gf,_⟩:=bU (os:=os) (id:=a3) (i:=k)
 have gl:=XL os a3
 have gof:=lI (id:=a3) hof
 have jl:j<(ob os k).field.length:=by rw [ho.len];omega
 have hold:=hfd k _ (C7 jl)
 rw [hkI]
 repeat' (first | refine BX h3 (by omega) ?_ | refine DI ?_ | refine BO ?_ | refine Z1 ?_ | refine mU ?_ | refine NS ?_ | refine IA (by first | with_reducible assumption | omega) ?_ | refine K3 (by first | with_reducible assumption | omega) ?_ | refine D9 (by first | with_reducible assumption | omega) rfl ?_ | refine EC (by first | with_reducible assumption | omega) rfl ?_ | refine CE ?_ | refine FM (by first | with_reducible assumption | omega) ?_ | refine BA ?_ | refine C8 ?_ | refine FW ?_ | refine AH (by omega) ?_ | refine QE (by omega) ?_ | refine LP (fun _=> ?_) (fun _=> ?_) | simp only [AI,AU,AL,AR,AQ,AG,AJ,AK,AO,AP,AN,AT,AS,AM,BH,BP,BS,BM,BQ,BN,BL,A6,A5,A4,A7,A8,A9])
 all_goals
  refine AH (by rw [HF (by omega),AG];exact jl) (JE (by omega) jl (BY ?_))
  simp only [AI,AU,AL,AR,AQ,AG,AJ,AK,AO,AP,AN,AT,AS,AM,BH,BP,BS,BM,BQ,BN,BL,A6,A5,A4,A7,A8,A9]
  refine HL (AZ (fun hge=>gn ?_) fun hlt=> ?_)
  ·simp only [AI,AU,AL,AR,AQ,AG,AJ,AK,AO,AP,AN,AT,AS,AM,BH,BP,BS,BM,BQ,BN,BL,A6,A5,A4,A7,A8,A9]
   refine AH (by omega) (P6 (f:=tO) (i:=k) (by omega) (by decide) rfl ?_)
   refine AH (by rw [HF (by omega),AG,gf];exact jl) (stF (by omega) (by rw [gf];exact jl) ?_)
   rw [gf]
   refine BA (AZ (fun he=> ?_) fun he=> ?_)
   ·rw [if_pos (by omega)] at hK;exact hK
   ·rw [if_neg (by omega)] at hK
    exact ls (by simpa using gl) (ME gof (OF.put (gof _ (IS (by omega))) (by rw [List.length_set];exact ho.len) fun x hx=>(List.mem_or_eq_of_mem_set hx).elim (ho.fld x) fun he=>he ▸ h3)) (ho.fld _ (C7 jl)) hK
  ·have e0:DZ os a3=os:=by unfold DZ;rw [if_pos];rw [EH (by omega)];decide
   rw [e0] at hK
   refine AH (by omega) (P6 (f:=tO) (i:=k) (by omega) (by decide) rfl ?_)
   refine AH (by rw [HF (by omega),AG];exact jl) (stF (by omega) jl ?_)
   refine BA (AZ (fun he=> ?_) fun he=> ?_)
   ·rw [if_pos (by omega)] at hK;exact hK
   ·rw [if_neg (by omega)] at hK
    exact ls (by simp) (ME hof (OF.put ho (by rw [List.length_set];exact ho.len) fun x hx=>(List.mem_or_eq_of_mem_set hx).elim (ho.fld x) fun he=>he ▸ h3)) (ho.fld _ (C7 jl)) hK
def OK (os:List AE) (ws:List Wk) (id:Int):List Wk×An:=
 if AA os id<0 then (ws,⟨1,0,[]⟩) else if JD ws<0 then (ws,⟨3,0,[]⟩) else (ws.set (JD ws).toNat ⟨true,id⟩,⟨0,JD ws,[]⟩)
def IV (os:List AE) (ws:List Wk) (kind k:Int):List Wk×An:=
 if ¬(0≤k∧k≤(ws.length:Int)-1) then (ws,⟨2,0,[]⟩) else
 if (wk ws k.toNat).used=false then (ws,⟨2,0,[]⟩) else
 if kind=9 then (ws.set k.toNat ⟨false,0⟩,⟨0,0,[]⟩) else
 if AA os (wk ws k.toNat).target<0 then (ws,⟨0, -1,[]⟩) else (ws,⟨0,(wk ws k.toNat).target,[]⟩)
theorem iP {ws:List Wk} (h: ¬JD ws<0):(JD ws).toNat<ws.length∧JD ws=((JD ws).toNat:Int)∧(wk ws (JD ws).toNat).used=false:=by
 rcases R1 ws.length (fun i=> !(wk ws i).used) with ⟨h1,_⟩ | ⟨i,h1,h2,h3,_⟩
 ·unfold JD at h;omega
 ·have e:JD ws=i:=h2
  have e2:(JD ws).toNat=i:=by omega
  rw [e2];exact ⟨h1,e,by simpa using h3⟩
theorem WN {os:List AE} {ws:List Wk} {cc d:List T} {kind k b c:Int} {s:ByteArray} {K:J2} (hol:os.length=8) (hwl:ws.length=8) (hk:F64 k) (hwf: ∀w∈ws,F64 w.target) (h7:kind=7→K [I (OK os ws k).2.code,I (OK os ws k).2.val] [tR tW (OK os ws k).1,tI (OK os ws k).2.freed]) (h:kind≠7→K [I (IV os ws kind k).2.code,I (IV os ws kind k).2.val] [tR tW (IV os ws kind k).1,tI (IV os ws kind k).2.freed]):cl2 ⟨Try.prog,w0⟩ 126 FP.sg [I kind,I k,I b,I c, .string s] [tR tO os,tR tW ws,cc,d] K:=by
 refine FP.cl2 ?_
 unfold FP.txt
 simp only [AI,AU,AL,AR,AQ,AG,AJ,AK,AO,AP,AN,AT,AS,AM,BH,BP,BS,BM,BQ,BN,BL,A6,A5,A4,A7,A8,A9]
 refine B1 (AZ (fun he=> ?_) fun he=> ?_)
 ·replace h:=h7 he
  clear h7
  unfold OK at h
  refine BX hk (by omega) (BA (AZ (fun hs=> ?_) fun hs=> ?_))
  ·rw [if_pos hs] at h;exact h
  rw [if_neg hs] at h
  refine BJ (fun i=>[iv i,I kind,I k,I b,I c, .string s,I 0,I 0]) (fun _=>[tR tW ws]) ws.length (fun i=> ∀j,j<i→(!(wk ws j).used)=false) rfl rfl (fun k hk=>by omega) (fun R i hi hP hR=> ?_)
  simp only [AI,AU,AL,AR,AQ,AG,AJ,AK,AO,AP,AN,AT,AS,AM,BH,BP,BS,BM,BQ,BN,BL,A6,A5,A4,A7,A8,A9]
  refine BA (AZ (fun hlt=> ?_) fun hge=> ?_)
  ·have hlt:i<ws.length:=by omega
   cases hv:(wk ws i).used with
   | false=>
     refine AH hlt (UC (v:= .bool false) hlt (by simp [tW,hv]) (CN (CL (AH hlt ?_))))
     unfold JD at h
     rw [S6 hlt (by rw [hv];rfl) hP,if_neg (by omega),Int.toNat_natCast] at h
     exact QG (f:=tW) hlt (y:=⟨true,k⟩) rfl h
   | true=>
     refine AH hlt (UC (v:= .bool true) hlt (by simp [tW,hv]) (CN (CE (BB (by omega) (hR hlt fun k hk=> ?_)))))
     rcases Nat.lt_succ_iff_lt_or_eq.1 hk with h3 | rfl
     ·exact hP k h3
     ·rw [hv];rfl
  ·have:i=ws.length:=by omega
   subst this
   unfold JD at h
   rw [XN hP,if_pos (by decide)] at h;exact h
 ·replace h:=h he
  clear h7
  unfold IV at h
  refine G5 ⟨by omega,by omega⟩ (DI (FW ?_))
  by_cases hb: ¬(0≤k∧k≤(ws.length:Int)-1)
  ·rw [if_pos hb] at h
   repeat' (first | exact h | refine BO ?_ | refine IK (by first | with_reducible assumption | omega) ?_ | refine D9 (by first | with_reducible assumption | omega) rfl ?_ | refine CL ?_)
  rw [if_neg hb] at h
  obtain ⟨j,rfl⟩: ∃j:Nat,k=j:=⟨k.toNat,by omega⟩
  rw [Int.toNat_natCast] at h
  have jl:j<ws.length:=by omega
  have hw:=hwf _ (List.getElem_mem jl)
  rw [bK jl] at hw
  cases hu:(wk ws j).used with
  | false=>
    rw [if_pos hu] at h
    repeat' (first | refine UC (v:= .bool false) jl (by simp [tW,hu]) ?_ | exact h | refine BO ?_ | refine DU (by first | with_reducible assumption | omega) ?_ | refine EC (by first | with_reducible assumption | omega) rfl ?_ | refine CL ?_ | refine AH (by omega) ?_ | refine CN ?_)
  | true=>
    rw [if_neg (by rw [hu];decide)] at h
    repeat' (first | refine UC (v:= .bool true) jl (by simp [tW,hu]) ?_ | refine BX hw (by omega) ?_ | refine BO ?_ | refine DU (by first | with_reducible assumption | omega) ?_ | refine EC (by first | with_reducible assumption | omega) rfl ?_ | refine CE ?_ | refine BA ?_ | refine B1 ?_ | refine AH (by omega) ?_ | refine rW (by omega) (by decide) rfl ?_ | refine AZ (fun _=> ?_) (fun _=> ?_) | refine CN ?_)
    ·rename_i hh
     rw [if_pos hh] at h
     exact QG (f:=tW) jl (y:=⟨false,0⟩) rfl h
    ·rename_i hh hs
     rw [if_neg hh,if_pos hs] at h
     exact h
    ·rename_i hh hs
     rw [if_neg hh,if_neg hs] at h
     exact h
end Go.Proofs.Ytklmcfpgdfibnaa.P
namespace Go.Proofs.Ytklmcfpgdfibnaa.P
open Go Go.Proofs.Ytklmcfpgdfibnaa Go.Proofs.Ytklmcfpgdfibnaa.Eng
set_option linter.unusedVariables false
theorem lS (n:Int):w64 n=(n+9223372036854775808) % 18446744073709551616-9223372036854775808:=by
 simp only [w64,IntKind.wrap,IntKind.bits,IntKind.signed]
 simp
 split <;> omega
theorem LO (a b:Int):w64 (w64 a+b)=w64 (a+b):=by simp only [lS];omega
theorem kT (a:Int):F64 (w64 a):=by rw [lS];exact ⟨by omega,by omega⟩
def FV:Nat→(Nat→Int)→Int
 | 0,_=>0
 | n+1,f=>FV n f+f n
theorem JY {n:Nat} {f g:Nat→Int} (h: ∀k,k<n→f k=g k):FV n f=FV n g:=by
 induction n with
 | zero=>rfl
 | succ n ih=>simp only [FV];rw [ih fun k hk=>h k (by omega),h n (by omega)]
theorem SV {n k0:Nat} {f g:Nat→Int} (hk:k0<n) (h: ∀k,k<n→k≠k0→f k=g k):FV n g=FV n f+(g k0-f k0):=by
 induction n with
 | zero=>omega
 | succ n ih=>
   simp only [FV]
   by_cases he:k0=n
   ·subst he
    rw [JY (g:=g) fun k hk=>h k (by omega) (by omega)];omega
   ·rw [ih (by omega) fun k hk hne=>h k (by omega) hne,h n (by omega) (by omega)];omega
theorem j7 {n:Nat} {f g:Nat→Int}:FV n (fun k=>f k+g k)=FV n f+FV n g:=by
 induction n with
 | zero=>rfl
 | succ n ih=>simp only [FV,ih];omega
theorem H5 {n:Nat} {f:Nat→Int} (h: ∀k,k<n→f k=0):FV n f=0:=by
 induction n with
 | zero=>rfl
 | succ n ih=>simp only [FV];rw [ih fun k hk=>h k (by omega),h n (by omega)];rfl
theorem JX {n:Nat} {f g:Nat→Int} (h: ∀k,k<n→f k≤g k):FV n f≤FV n g:=by
 induction n with
 | zero=>exact Int.le_refl _
 | succ n ih=>simp only [FV];have:=ih fun k hk=>h k (by omega);have:=h n (by omega);omega
theorem EN {l:List Int} {i k:Nat} {v:Int} (hk:k<l.length):gI (l.set k v) i=if i=k then v else gI l i:=by
 unfold gI
 by_cases h:i=k
 ·subst h
  rw [if_pos rfl,List.getD_eq_getElem?_getD,List.getElem?_set_self hk];rfl
 ·rw [if_neg h,List.getD_eq_getElem?_getD,List.getElem?_set_ne (Ne.symm h),List.getD_eq_getElem?_getD]
def BG (os:List AE) (k:Nat):List Int:=((ob os k).field.map (AA os)).filter fun x=>decide (0≤x)
def E (os:List AE) (k i:Nat):Int:=((BG os k).count (i:Int):Nat)
theorem B4 {os:List AE} {k:Nat} {x:Int} (h:x∈BG os k):0≤x∧x.toNat<8∧x=(x.toNat:Int)∧os.length=8∧(ob os x.toNat).live=true:=by
 obtain ⟨h1,h2⟩:=List.mem_filter.1 h
 obtain ⟨f,_,rfl⟩:=List.mem_map.1 h1
 have h2:0≤AA os f:=by simpa using h2
 have:=BF h2
 exact ⟨h2,this.2.2.2.1,by omega,this.1,this.2.2.2.2.1⟩
theorem N4 {os:List AE} (hof: ∀o∈os,OF o) {k:Nat} (hk:k<os.length):(BG os k).length≤3:=by
 have:=List.length_filter_le (fun x=>decide (0≤x)) ((ob os k).field.map (AA os))
 rw [List.length_map,(hof _ (IS hk)).len] at this
 exact this
theorem OM (os:List AE) (k i:Nat):0≤E os k i:=Int.natCast_nonneg _
theorem sY {os:List AE} {k i:Nat} (h:(i:Int)∉BG os k):E os k i=0:=by
 unfold E;rw [List.count_eq_zero.2 h];rfl
inductive Reach (os:List AE) (s:Nat):Nat→Prop
 | refl:Reach os s s
 | step {k:Nat} {j:Int}:Reach os s k→j∈BG os k→Reach os s j.toNat
theorem Reach.trans {os:List AE} {a b c:Nat} (h:Reach os a b) (g:Reach os b c):Reach os a c:=by
 induction g with
 | refl=>exact h
 | step _ hj ih=>exact .step ih hj
theorem Reach.closed {os:List AE} {P:Nat→Prop} {s k:Nat} (h:Reach os s k) (hs:P s) (hc: ∀k,P k→ ∀j∈BG os k,P j.toNat):P k:=by
 induction h with
 | refl=>exact hs
 | step _ hj ih=>exact hc _ ih _ hj
theorem Reach.lt {os:List AE} {s k:Nat} (h:Reach os s k) (hs:s<8):k<8:=h.closed (P:=fun k=>k<8) hs fun _ _ _ hj=>(B4 hj).2.1
def S (os:List AE) (P:Nat→Bool) (i:Nat):Int:=FV 8 fun k=>if P k then E os k i else 0
theorem gH {os:List AE} {P Q:Nat→Bool} {i:Nat} (h: ∀k,k<8→P k=Q k):S os P i=S os Q i:=JY fun k hk=>by rw [h k hk]
theorem kK {os:List AE} {P Q:Nat→Bool} {i k0:Nat} (hk:k0<8) (h0:P k0=false) (h1:Q k0=true) (h: ∀k,k<8→k≠k0→P k=Q k):S os Q i=S os P i+E os k0 i:=by
 unfold S
 rw [SV (n:=8) (f:=fun k=>if P k then E os k i else 0) (g:=fun k=>if Q k then E os k i else 0) hk fun k hk hne=>by rw [h k hk hne]]
 simp only [h0,h1];simp
theorem YQ {os:List AE} {P:Nat→Bool} {i:Nat}:S os P i+S os (fun k=> !P k) i=S os (fun _=>true) i:=by
 unfold S
 rw [←j7]
 refine JY fun k hk=> ?_
 cases h:P k <;> simp [h]
def isC (col:List Int) (c:Int) (k:Nat):Bool:=decide (gI col k=c)
theorem PG {col:List Int} {c:Int} {k s:Nat} (hs:s<col.length):isC (col.set s c) c k=(decide (k=s)||isC col c k):=by
 unfold isC
 rw [EN hs]
 by_cases h:k=s
 ·simp [h]
 ·simp [h]
def J4 (col:List Int) (c:Int):Nat:=(FV 8 fun k=>if isC col c k then 0 else 1).toNat
theorem fP {a b:List Int} {c:Int} (h: ∀k,k<8→gI a k=c→gI b k=c):J4 b c≤J4 a c:=by
 have:FV 8 (fun k=>if isC b c k then 0 else 1)≤FV 8 (fun k=>if isC a c k then 0 else 1):=JX fun k hk=>by
  by_cases h1:gI a k=c
  ·simp [isC,h1,h k hk h1]
  ·by_cases h3:gI b k=c <;> simp [isC,h1,h3]
 unfold J4;omega
theorem Q0 {a b:List Int} {c:Int} {s:Nat} (hs:s<8) (h0:gI a s≠c) (h1:gI b s=c) (h: ∀k,k<8→gI a k=c→gI b k=c):J4 b c<J4 a c:=by
 have hle:FV 8 (fun k=>if isC b c k then 0 else 1)≤FV 8 (fun k=>if isC a c k∨k=s then 0 else 1):=JX fun k hk=>by
  by_cases h2:gI a k=c
  ·simp [isC,h2,h k hk h2]
  ·by_cases hks:k=s
   ·subst hks;simp [isC,h1]
   ·by_cases h3:gI b k=c <;> simp [isC,h2,h3,hks]
 have hu:=SV (n:=8) (k0:=s) (f:=fun k=>if isC a c k∨k=s then (0:Int) else 1) (g:=fun k=>if isC a c k then (0:Int) else 1) hs fun k hk hne=>by simp [hne]
 have e1:isC a c s=false:=by simp [isC,h0]
 simp only [e1,or_true,if_true] at hu
 have h3:0≤FV 8 (fun k=>if isC b c k then (0:Int) else 1):=by
  have:=JX (n:=8) (f:=fun _=>0) (g:=fun k=>if isC b c k then (0:Int) else 1) fun k hk=>by split <;> simp
  rw [H5 (fun _ _=>rfl)] at this;exact this
 simp only [Bool.false_eq_true,if_false] at hu
 unfold J4;omega
theorem kH (col:List Int) (c:Int):J4 col c≤8:=by
 have:FV 8 (fun k=>if isC col c k then (0:Int) else 1)≤FV 8 (fun _=>1):=JX fun k hk=>by split <;> simp
 have e:FV 8 (fun _=>(1:Int))=8:=rfl
 unfold J4;omega
structure MC (os:List AE) (c m:Int) (cs col cs' col':List Int) (s:Nat):Prop where
 len:cs'.length=8∧col'.length=8
 f: ∀i,i<8→F64 (gI cs' i)
 JL: ∀k,k<8→gI col k=c→gI col' k=c
 only: ∀k,k<8→gI col' k≠c→gI col' k=gI col k
 got:gI col' s=c
 clo: ∀k,k<8→gI col' k=c→gI col k≠c→Reach os s k∧ ∀j∈BG os k,gI col' j.toNat=c
 cnt: ∀i,i<8→gI cs' i=w64 (gI cs i+m*(S os (isC col' c) i-S os (isC col c) i))
theorem MC.refl {os:List AE} {c m:Int} {cs col:List Int} {s:Nat} (h1:cs.length=8) (h2:col.length=8) (hf: ∀i,i<8→F64 (gI cs i)) (hs:gI col s=c):MC os c m cs col cs col s:=
 ⟨⟨h1,h2⟩,hf,fun _ _ h=>h,fun _ _ _=>rfl,hs,fun _ _ h1 h2=>absurd h1 h2,fun i hi=>by rw [Int.sub_self,Int.mul_zero,Int.add_zero,I8 (hf i hi)]⟩
end Go.Proofs.Ytklmcfpgdfibnaa.P
