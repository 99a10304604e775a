/- A part of the proof. -/
import Derived.Test.YtklmcfpgdfibnaaRiHpI
namespace Go.Proofs.Ytklmcfpgdfibnaa.P
open Go Go.Proofs.Ytklmcfpgdfibnaa Go.Proofs.Ytklmcfpgdfibnaa.Eng
set_option linter.unusedVariables false
set_option maxHeartbeats 4000000
set_option linter.unusedVariables false
set_option linter.unusedSimpArgs false
attribute [local irreducible] prP gP gE gF AW ixW ldc ldg ldl stc stg scW mkW apW AZ cl2 BJ CH B2
variable {w0:World}
def LX (n:Nat) (p:Nat→Bool):Int:=match (List.range n).find? p with
 | some i=>(i:Int)
 | none=> -1
theorem OA {n i:Nat} {p:Nat→Bool} (hi:i<n) (h:p i=true) (hb: ∀k,k<i→p k=false):LX n p=i:=by
 have:(List.range n).find? p=some i:=List.find?_range_eq_some.2 ⟨h,List.mem_range.2 hi,fun j hj=>by rw [hb j hj];rfl⟩
 rw [LX,this]
theorem XI {n:Nat} {p:Nat→Bool} (hb: ∀k,k<n→p k=false):LX n p= -1:=by
 have:(List.range n).find? p=none:=List.find?_range_eq_none.2 fun j hj=>by rw [hb j hj];rfl
 rw [LX,this]
theorem QY (n:Nat) (p:Nat→Bool):(LX n p= -1∧ ∀k,k<n→p k=false)∨ ∃i,i<n∧LX n p=(i:Int)∧p i=true∧ ∀k,k<i→p k=false:=by
 cases h:(List.range n).find? p with
 | none=>exact .inl ⟨by rw [LX,h],fun k hk=>by have:=List.find?_range_eq_none.1 h k hk;simpa using this⟩
 | some i=>
   obtain ⟨h1,h2,h3⟩:=List.find?_range_eq_some.1 h
   exact .inr ⟨i,List.mem_range.1 h2,by rw [LX,h],h1,fun k hk=>by have:=h3 k hk;simpa using this⟩
def I5 (os:List AE) (i:Nat):Bool:= !(ob os i).live&&decide ((ob os i).gen<999)
def CM (os:List AE):Int:=LX os.length (I5 os)
def I1 (ws:List Wk):Int:=LX ws.length fun i=> !(wk ws i).used
theorem S7 {os:List AE} {b c d:List T} {K:J2} (hol:os.length=8) (h:K [I (CM os)] []):cl2 ⟨Try.prog,w0⟩ 75 ED.sg [] [tR tO os,b,c,d] K:=by
 refine ED.cl2 ?_
 unfold ED.txt
 simp only [AJ,AO,AS,AN,AQ,AG,AK,AI,AR,AT,AU,AM,AL,AP,BP,BU,BW,BT,BV,BS,BQ,AY,A6,A7,A4,A5,A8]
 refine BL (fun i=>[iv os.length,iv i]) (fun _=>[]) os.length (fun i=> ∀k,k<i→I5 os k=false) rfl rfl (fun k hk=>by omega) (fun R i hi hP hR=> ?_)
 simp only [AJ,AO,AS,AN,AQ,AG,AK,AI,AR,AT,AU,AM,AL,AP,BP,BU,BW,BT,BV,BS,BQ,AY,A6,A7,A4,A5,A8]
 refine BE (BB (fun hlt=> ?_) fun hge=> ?_)
 ·have hlt:i<os.length:=by omega
  refine BF hlt (OT hlt ?_)
  simp only [s9,sV]
  have no:I5 os i=false→R [iv os.length,iv (i+1)] []:=fun hn=>hR hlt fun k hk=>(Nat.lt_succ_iff_lt_or_eq.1 hk).elim (hP k) fun he=>he ▸ hn
  have yes:I5 os i=true→K [iv i] []:=fun hy=>by unfold CM at h;rw [OA hlt hy hP] at h;exact h
  cases hv:(ob os i).live with
  | false=>
    repeat' (first | refine B9 ?_ | refine bA ?_ | refine NI (by first | with_reducible assumption | omega) ?_ | refine HR (by first | with_reducible assumption | omega) rfl ?_ | refine lO rfl ?_ | refine BE ?_ | refine A9 (by omega) ?_ | refine BB (fun _=> ?_) (fun _=> ?_) | refine DR ?_)
    ·exact yes (by simp [I5,hv];omega)
    ·exact no (by simp [I5,hv];omega)
  | true=>
    repeat' (first | refine B9 ?_ | refine VZ ?_ | refine NI (by first | with_reducible assumption | omega) ?_ | refine HR (by first | with_reducible assumption | omega) rfl ?_ | refine X8 rfl ?_ | refine C7 ?_ | refine BE ?_ | refine A9 (by omega) ?_ | refine DR ?_)
    all_goals exact no (by simp [I5,hv])
 ·have:i=os.length:=by omega
  subst this
  unfold CM at h
  rw [XI hP] at h;exact h
theorem S4 {ws:List Wk} {K:J2} (hol:ws.length=8) (h:K [I (I1 ws)] []):cl2 ⟨Try.prog,w0⟩ 165 EF.sg [] [tR tW ws] K:=by
 refine EF.cl2 ?_
 unfold EF.txt
 simp only [AJ,AO,AS,AN,AQ,AG,AK,AI,AR,AT,AU,AM,AL,AP,BP,BU,BW,BT,BV,BS,BQ,AY,A6,A7,A4,A5,A8]
 refine BL (fun i=>[iv ws.length,iv i]) (fun _=>[]) ws.length (fun i=> ∀k,k<i→(!(wk ws k).used)=false) rfl rfl (fun k hk=>by omega) (fun R i hi hP hR=> ?_)
 simp only [AJ,AO,AS,AN,AQ,AG,AK,AI,AR,AT,AU,AM,AL,AP,BP,BU,BW,BT,BV,BS,BQ,AY,A6,A7,A4,A5,A8]
 refine BE (BB (fun hlt=> ?_) fun hge=> ?_)
 ·have hlt:i<ws.length:=by omega
  refine BF hlt (nH hlt ?_)
  simp only [wZ]
  cases hv:(wk ws i).used with
  | false=>
    refine DR (CV ?_)
    unfold I1 at h
    rw [OA hlt (by rw [hv];rfl) hP] at h;exact h
  | true=>
    refine DR (C7 (A9 (by omega) (hR hlt fun k hk=> ?_)))
    rcases Nat.lt_succ_iff_lt_or_eq.1 hk with h3 | rfl
    ·exact hP k h3
    ·rw [hv];rfl
 ·have:i=ws.length:=by omega
  subst this
  unfold I1 at h
  rw [XI hP] at h;exact h
theorem BY {n:Int} {K:J2} (h:K [I n,I 0] [[]]):cl2 ⟨Try.prog,w0⟩ 107 BO.sg [I n] [] K:=BO.cl2 h
def IE (g s:Int):AE:=⟨true,g,s,1,0,1,G4,false⟩
def HE (os:List AE) (ss:List ByteArray) (s:ByteArray):List AE×List ByteArray×An:=
 if ¬(1≤(s.size:Int)∧(s.size:Int)≤8) then (os,ss,⟨2,0,[]⟩)
 else if CM os<0 then (os,ss,⟨3,0,[]⟩)
 else if at_ ss s<0∧6≤ss.length then (os,ss,⟨6,0,[]⟩)
 else (os.set (CM os).toNat (IE (w64 ((ob os (CM os).toNat).gen+1)) (if at_ ss s<0 then ss.length else at_ ss s)),(if at_ ss s<0 then ss++[s] else ss),⟨0,B6 (CM os) (w64 ((ob os (CM os).toNat).gen+1)),[]⟩)
theorem NV {os:List AE} (h: ¬CM os<0):(CM os).toNat<os.length∧CM os=((CM os).toNat:Int)∧I5 os (CM os).toNat=true:=by
 rcases QY os.length (I5 os) with ⟨h1,_⟩ | ⟨i,h1,h2,h3,_⟩
 ·unfold CM at h;omega
 ·have e:CM os=i:=h2
  have e2:(CM os).toNat=i:=by omega
  rw [e2];exact ⟨h1,e,h3⟩
theorem ZK {os:List AE} {b c:List T} {ss:List ByteArray} {s:ByteArray} {K:J2} (hol:os.length=8) (hsl:ss.length≤6) (h:K [I (HE os ss s).2.2.code,I (HE os ss s).2.2.val] [tI (HE os ss s).2.2.freed,tR tO (HE os ss s).1,tS (HE os ss s).2.1]):cl2 ⟨Try.prog,w0⟩ 144 DG.sg [.string s] [tR tO os,b,c,tS ss] K:=by
 refine DG.cl2 ?_
 unfold DG.txt
 refine S7 hol (PV (by omega) (DB ?_))
 simp only [AJ,AO,AS,AN,AQ,AG,AK,AI,AR,AT,AU,AM,AL,AP,BP,BU,BW,BT,BV,BS,BQ,AY,A6,A7,A4,A5,A8]
 unfold HE at h
 refine gR (FG (HZ (BB (fun hb=> ?_) fun hb=> ?_)))
 ·rw [if_pos hb] at h
  exact BY h
 rw [if_neg hb] at h
 refine BE (BB (fun hf=> ?_) fun hf=> ?_)
 ·rw [if_pos hf] at h
  exact BY h
 rw [if_neg hf] at h
 obtain ⟨f1,f2,f3⟩:=NV hf
 refine BE ?_
 by_cases ha:at_ ss s<0
 ·by_cases h6:6≤ss.length
  ·rw [if_pos ⟨ha,h6⟩] at h
   repeat' (first | exact BY h | refine B9 ?_ | refine NI (by first | with_reducible assumption | omega) ?_ | refine HR (by first | with_reducible assumption | omega) rfl ?_ | refine IY (by first | with_reducible assumption | omega) ?_ | refine IU ?_)
   all_goals omega
  ·rw [if_neg (by omega),if_pos ha,if_pos ha] at h
   repeat' (first | refine B9 ?_ | refine NI (by first | with_reducible assumption | omega) ?_ | refine HR (by first | with_reducible assumption | omega) rfl ?_ | refine IY (by first | with_reducible assumption | omega) ?_ | refine HI (by first | with_reducible assumption | omega) ?_ | refine BE ?_ | refine IU ?_ | refine KM ?_ | refine gK (by omega) (by omega) ?_ | refine JX (by omega) (by decide) rfl ?_ | refine GH (by first | exact TT _ | exact X1 _ | exact ZG _ | exact fZ _ | rfl) (by omega) ?_)
   exact R9 (y:=IE (w64 ((ob os (CM os).toNat).gen+1)) ss.length) (by omega) rfl (FO (by rw [←qC] at h;exact h))
 ·rw [if_neg (by omega),if_neg ha,if_neg ha] at h
  repeat' (first | refine B9 ?_ | refine V0 (by first | with_reducible assumption | omega) ?_ | refine F8 (by first | with_reducible assumption | omega) rfl ?_ | refine C7 ?_ | refine HI (by first | with_reducible assumption | omega) ?_ | refine BE ?_ | refine KM ?_ | refine gK (by omega) (by omega) ?_ | refine JX (by omega) (by decide) rfl ?_)
  exact R9 (y:=IE (w64 ((ob os (CM os).toNat).gen+1)) (at_ ss s)) (by omega) rfl (FO h)
def NH (r:List AE×List Int×List Int):List AE×List Int×An:=(r.1,r.2.1,⟨0,0,r.2.2⟩)
def FT (os:List AE) (buf:List Int) (kind id:Int):List AE×List Int×An:=
 if AA os id<0 then (os,buf,⟨1,0,[]⟩) else
 if kind=2 then
  if (ob os (AA os id).toNat).holds=20 then (os,buf,⟨4,0,[]⟩) else (EO (os.set (AA os id).toNat {ob os (AA os id).toNat with holds:=(ob os (AA os id).toNat).holds+1}) id,buf,⟨0,0,[]⟩)
 else if kind=5 then
  if (ob os (AA os id).toNat).roots=20 then (os,buf,⟨4,0,[]⟩) else (EO (os.set (AA os id).toNat {ob os (AA os id).toNat with roots:=(ob os (AA os id).toNat).roots+1}) id,buf,⟨0,0,[]⟩)
 else if kind=3 then
  if (ob os (AA os id).toNat).holds=0 then (os,buf,⟨5,0,[]⟩) else NH (GA (os.set (AA os id).toNat {ob os (AA os id).toNat with holds:=(ob os (AA os id).toNat).holds-1}) buf [id])
 else
  if (ob os (AA os id).toNat).roots=0 then (os,buf,⟨5,0,[]⟩) else NH (GA (os.set (AA os id).toNat {ob os (AA os id).toNat with roots:=(ob os (AA os id).toNat).roots-1}) buf [id])
theorem stH {os:List AE} {k:Nat} {v:Int} {K:List T→Prop} (hk:k<os.length) (h:K (tR tO (os.set k {ob os k with holds:=v}))):stc (tR tO os) [] (AD (iv (AD (iv k)*8+3))) (I v) K:=by
 rw [BA (AD (iv k)*8+3), ←DQ hk] at*;exact kL hk h
theorem stR {os:List AE} {k:Nat} {v:Int} {K:List T→Prop} (hk:k<os.length) (h:K (tR tO (os.set k {ob os k with roots:=v}))):stc (tR tO os) [] (AD (iv (AD (iv k)*8+4))) (I v) K:=by
 rw [BA (AD (iv k)*8+4), ←DQ hk] at*;exact YG hk (by decide) rfl rfl h
theorem T7 {os:List AE} {buf:List Int} {b d:List T} {kind id:Int} {K:J2} (hol:os.length=8) (hof: ∀o∈os,OF o) (hb:buf.length≤100) (hid:F64 id) (hkd:kind=2∨kind=3∨kind=5∨kind=6) (hr: ∀i,(0≤(ob os i).holds∧(ob os i).holds≤20)∧(0≤(ob os i).roots∧(ob os i).roots≤20)) (h:K [I (FT os buf kind id).2.2.code,I (FT os buf kind id).2.2.val] [tI (FT os buf kind id).2.2.freed,tR tO (FT os buf kind id).1,tI (FT os buf kind id).2.1]):cl2 ⟨Try.prog,w0⟩ 145 CX.sg [I kind,I id] [tR tO os,b,tI buf,d] K:=by
 refine CX.cl2 ?_
 unfold CX.txt
 simp only [AJ,AO,AS,AN,AQ,AG,AK,AI,AR,AT,AU,AM,AL,AP,BP,BU,BW,BT,BV,BS,BQ,AY,A6,A7,A4,A5,A8]
 unfold FT at h
 refine B5 hid (by omega) (BE (BB (fun hs=> ?_) fun hs=> ?_))
 ·rw [if_pos hs] at h
  exact BY h
 rw [if_neg hs] at h
 have hkb:=BH (l:=os) (id:=id) (by omega)
 obtain ⟨k,hkk⟩: ∃k,(AA os id).toNat=k:=⟨_,rfl⟩
 have hkI:AA os id=(k:Int):=by omega
 rw [hkk] at h hkb
 have hkl:k<os.length:=by omega
 have hrk:=hr k
 have ho:=hof _ (JY (l:=os) (i:=k) (by omega))
 obtain ⟨⟨r1,r2⟩,r3,r4⟩:=hrk
 rw [BP,hkI]
 refine BF (by omega) (DB ?_)
 simp only [AJ,AO,AS,AN,AQ,AG,AK,AI,AR,AT,AU,AM,AL,AP,BP,BU,BW,BT,BV,BS,BQ,AY,A6,A7,A4,A5,A8]
 rcases hkd with rfl | rfl | rfl | rfl
 ·simp only [if_true] at h
  repeat' (first | refine B9 ?_ | refine TY ?_ | refine h9 ?_ | refine HR (by first | with_reducible assumption | omega) rfl ?_ | refine F8 (by first | with_reducible assumption | omega) rfl ?_ | refine CV ?_ | refine C7 ?_ | refine CT ?_ | refine FZ ⟨by omega,by omega⟩ ?_ | refine JX (by omega) (by decide) rfl ?_ | refine BB (fun _=> ?_) (fun _=> ?_))
  ·rename_i h20
   rw [if_pos h20] at h
   exact BY h
  ·rename_i h20
   rw [if_neg h20] at h
   exact stH hkl (N8 hid (by simpa using hol) h)
 ·simp only [if_neg (show ¬(3:Int)=2 by decide),if_neg (show ¬(3:Int)=5 by decide),if_true] at h
  repeat' (first | refine B9 ?_ | refine TY ?_ | refine F8 (by first | with_reducible assumption | omega) rfl ?_ | refine C7 ?_ | refine CT ?_ | refine FZ ⟨by omega,by omega⟩ ?_ | refine JX (by omega) (by decide) rfl ?_ | refine BB (fun _=> ?_) (fun _=> ?_))
  ·rename_i h20
   rw [if_pos h20] at h
   exact BY h
  ·rename_i h20
   rw [if_neg h20] at h
   exact stH hkl (OB (buf:=buf) (ids:=[id]) (by simpa using hol) (QH hof ⟨ho.gen,ho.len,ho.fld⟩) (by omega) (by simp) (by simpa using hid) h)
 ·simp only [if_neg (show ¬(5:Int)=2 by decide),if_true] at h
  repeat' (first | refine B9 ?_ | refine TY ?_ | refine h9 ?_ | refine HR (by first | with_reducible assumption | omega) rfl ?_ | refine F8 (by first | with_reducible assumption | omega) rfl ?_ | refine CV ?_ | refine CT ?_ | refine FZ ⟨by omega,by omega⟩ ?_ | refine BF (by omega) ?_ | refine JX (by omega) (by decide) rfl ?_ | refine BB (fun _=> ?_) (fun _=> ?_))
  ·rename_i h20
   rw [if_pos h20] at h
   exact BY h
  ·rename_i h20
   rw [if_neg h20] at h
   exact stR hkl (N8 hid (by simpa using hol) h)
 ·simp only [if_neg (show ¬(6:Int)=2 by decide),if_neg (show ¬(6:Int)=5 by decide),if_neg (show ¬(6:Int)=3 by decide)] at h
  repeat' (first | refine B9 ?_ | refine TY ?_ | refine F8 (by first | with_reducible assumption | omega) rfl ?_ | refine CV ?_ | refine C7 ?_ | refine CT ?_ | refine FZ ⟨by omega,by omega⟩ ?_ | refine BF (by omega) ?_ | refine JX (by omega) (by decide) rfl ?_ | refine BB (fun _=> ?_) (fun _=> ?_))
  ·rename_i h20
   rw [if_pos h20] at h
   exact BY h
  ·rename_i h20
   rw [if_neg h20] at h
   exact stR hkl (OB (buf:=buf) (ids:=[id]) (by simpa using hol) (QH hof ⟨ho.gen,ho.len,ho.fld⟩) (by omega) (by simp) (by simpa using hid) h)
theorem St.set {h:Hp} {os:List AE} (st:St h) (hl:os.length=h.AB.length) (ho: ∀o∈os,OF o):St {h with AB:=os}:=⟨by have:=st.ol;simp only;omega,st.wl,st.sl,st.bl,ho,st.ss,st.wf,st.bf⟩
end Go.Proofs.Ytklmcfpgdfibnaa.P
namespace Go.Proofs.Ytklmcfpgdfibnaa.P
open Go Go.Proofs.Ytklmcfpgdfibnaa Go.Proofs.Ytklmcfpgdfibnaa.Eng
set_option linter.unusedVariables false
set_option maxHeartbeats 4000000
set_option linter.unusedVariables false
set_option linter.unusedSimpArgs false
attribute [local irreducible] prP gP gE gF AW ixW ldc ldg ldl stc stg scW mkW apW AZ cl2 BJ CH B2
variable {w0:World}
def GP (os:List AE) (buf:List Int) (a b c:Int):List AE×List Int×An:=
 if AA os a<0∨(c≠ -1∧AA os c<0) then (os,buf,⟨1,0,[]⟩) else
 if ¬(0≤b∧b≤2) then (os,buf,⟨2,0,[]⟩) else
 if gI (ob os (AA os a).toNat).field b.toNat= -1 then
  ((EO os c).set (AA os a).toNat {ob (EO os c) (AA os a).toNat with field:=(ob os (AA os a).toNat).field.set b.toNat c},buf,⟨0,0,[]⟩)
 else NH (GA ((EO os c).set (AA os a).toNat {ob (EO os c) (AA os a).toNat with field:=(ob os (AA os a).toNat).field.set b.toNat c}) buf [gI (ob os (AA os a).toNat).field b.toNat])
theorem DP {l:List AE} {i k:Nat} {o:AE} (hk:k<l.length):ob (l.set k o) i=if i=k then o else ob l i:=by
 unfold ob
 by_cases h:i=k
 ·subst h
  rw [if_pos rfl,List.getD_eq_getElem?_getD,List.getElem?_set_self hk];rfl
 ·rw [if_neg h,List.getD_eq_getElem?_getD,List.getElem?_set_ne (Ne.symm h),List.getD_eq_getElem?_getD]
theorem VA {os:List AE} {id:Int} {i:Nat}:(ob (EO os id) i).live=(ob os i).live∧(ob (EO os id) i).gen=(ob os i).gen∧(ob (EO os id) i).site=(ob os i).site∧(ob (EO os id) i).holds=(ob os i).holds∧(ob (EO os id) i).roots=(ob os i).roots∧(ob (EO os id) i).field=(ob os i).field∧(ob (EO os id) i).purple=(ob os i).purple:=by
 unfold EO
 split
 ·exact ⟨rfl,rfl,rfl,rfl,rfl,rfl,rfl⟩
 ·have hk:=BH (l:=os) (id:=id) (by omega)
  rw [DP (by omega)]
  split
  ·rename_i h;subst h;exact ⟨rfl,rfl,rfl,rfl,rfl,rfl,rfl⟩
  ·exact ⟨rfl,rfl,rfl,rfl,rfl,rfl,rfl⟩
theorem stF {os:List AE} {k j:Nat} {v:Int} {K:List T→Prop} (hk:k<os.length) (hj:j<(ob os k).field.length) (h:K (tR tO (os.set k {ob os k with field:=(ob os k).field.set j v}))):stc (tR tO os) [AD (iv k)*8+6] (AD (iv j)*1) (I v) K:=by
 rw [←DQ hk] at h hj;exact jX hk hj h
theorem OF.put {o:AE} {m:List Int} (h:OF o) (hl:m.length=3) (hf: ∀x∈m,F64 x):OF {o with field:=m}:=⟨h.gen,hl,hf⟩
theorem Y3 {os:List AE} {buf:List Int} {b d:List T} {a0 a1 a2 a3:Int} {s:ByteArray} {K:J2} (hol:os.length=8) (hof: ∀o∈os,OF o) (hb:buf.length≤100) (h1:F64 a1) (h3:F64 a3) (h:K [I (GP os buf a1 a2 a3).2.2.code,I (GP os buf a1 a2 a3).2.2.val] [tI (GP os buf a1 a2 a3).2.2.freed,tR tO (GP os buf a1 a2 a3).1,tI (GP os buf a1 a2 a3).2.1]):cl2 ⟨Try.prog,w0⟩ 146 DH.sg [I a0,I a1,I a2,I a3, .string s] [tR tO os,b,tI buf,d] K:=by
 refine DH.cl2 ?_
 unfold DH.txt
 unfold GP at h
 refine B5 h1 (by omega) ?_
 by_cases hs:AA os a1<0
 ·rw [if_pos (.inl hs)] at h
  repeat' (first | exact BY h | refine B9 ?_ | refine sN ?_ | refine X4 (by first | with_reducible assumption | omega) ?_ | refine J6 (by first | with_reducible assumption | omega) ?_ | refine HR (by first | with_reducible assumption | omega) rfl ?_ | refine CV ?_ | refine BE ?_)
 have hkb:=BH (l:=os) (id:=a1) (by omega)
 by_cases hc:a3≠ -1∧AA os a3<0
 ·obtain ⟨hc1,hc2⟩:=hc
  rw [if_pos (.inr ⟨hc1,hc2⟩)] at h
  repeat' (first | refine B5 h3 (by omega) ?_ | exact BY h | refine B9 ?_ | refine W6 ?_ | refine UW (by first | with_reducible assumption | omega) ?_ | refine NI (by first | with_reducible assumption | omega) ?_ | refine D9 (by first | with_reducible assumption | omega) ?_ | refine HR (by first | with_reducible assumption | omega) rfl ?_ | refine F8 (by first | with_reducible assumption | omega) rfl ?_ | refine IY (by first | with_reducible assumption | omega) ?_ | refine BE ?_ | refine DN ?_)
 rw [if_neg (by omega)] at h
 by_cases hb2: ¬(0≤a2∧a2≤2)
 ·rw [if_pos hb2] at h
  repeat' (first | refine B5 h3 (by omega) ?_ | refine FG ?_ | exact BY h | refine B9 ?_ | refine W6 ?_ | refine UW (by first | with_reducible assumption | omega) ?_ | refine NI (by first | with_reducible assumption | omega) ?_ | refine V0 (by first | with_reducible assumption | omega) ?_ | refine D9 (by first | with_reducible assumption | omega) ?_ | refine HR (by first | with_reducible assumption | omega) rfl ?_ | refine F8 (by first | with_reducible assumption | omega) rfl ?_ | refine C7 ?_ | refine IY (by first | with_reducible assumption | omega) ?_ | refine HI (by first | with_reducible assumption | omega) ?_ | refine BE ?_ | refine DN ?_ | refine HZ ?_ | refine QW (fun _=> ?_) (fun _=> ?_))
 rw [if_neg hb2] at h
 obtain ⟨k,hkk⟩: ∃k,(AA os a1).toNat=k:=⟨_,rfl⟩
 have hkI:AA os a1=(k:Int):=by omega
 rw [hkk] at h hkb
 obtain ⟨j,rfl⟩: ∃j:Nat,a2=j:=⟨a2.toNat,by omega⟩
 rw [Int.toNat_natCast] at h
 have hkl:k<os.length:=by omega
 have ho:=hof _ (JY (l:=os) (i:=k) (by omega))
 obtain ⟨_,_,_,_,_,gf,_⟩:=VA (os:=os) (id:=a3) (i:=k)
 have gl:=SJ os a3
 have gof:=oE (id:=a3) hof
 have jl:j<(ob os k).field.length:=by rw [ho.len];omega
 rw [hkI]
 repeat' (first | refine B5 h3 (by omega) ?_ | refine FG ?_ | refine N8 h3 hol ?_ | refine B9 ?_ | refine W6 ?_ | refine dI ?_ | refine TY ?_ | refine NI (by first | with_reducible assumption | omega) ?_ | refine V0 (by first | with_reducible assumption | omega) ?_ | refine HR (by first | with_reducible assumption | omega) rfl ?_ | refine F8 (by first | with_reducible assumption | omega) rfl ?_ | refine C7 ?_ | refine HI (by first | with_reducible assumption | omega) ?_ | refine BE ?_ | refine DN ?_ | refine HZ ?_ | refine BF (by omega) ?_ | refine vO (by omega) ?_ | refine QW (fun _=> ?_) (fun _=> ?_) | simp only [AJ,AO,AS,AN,AQ,AG,AK,AI,AR,AT,AU,AM,AL,AP,BP,BU,BW,BT,BV,BS,BQ,AY,A6,A7,A4,A5,A8])
 all_goals
  refine BF (by rw [MW (by omega),AG,gf];exact jl) (VL (by omega) (by rw [gf];exact jl) (BF (by omega) ?_))
  rw [gf]
  refine ZL (f:=tO) (i:=k) (by omega) (by decide) rfl ?_
  refine BF (by rw [MW (by omega),AG,gf];exact jl) (stF (by omega) (by rw [gf];exact jl) ?_)
  rw [gf]
  refine CT (BB (fun he=> ?_) fun he=> ?_)
  ·rw [if_pos he] at h;exact h
  ·rw [if_neg he] at h
   exact OB (buf:=buf) (ids:=[gI (ob os k).field j]) (by simpa using gl.trans hol) (QH gof (OF.put (gof _ (JY (by omega))) (by rw [List.length_set];exact ho.len) fun x hx=>(List.mem_or_eq_of_mem_set hx).elim (ho.fld x) fun he=>he ▸ h3)) (by omega) (by simp) (by simpa using ho.fld _ (D6 jl)) h
def OC (os:List AE) (ws:List Wk) (id:Int):List Wk×An:=
 if AA os id<0 then (ws,⟨1,0,[]⟩) else if I1 ws<0 then (ws,⟨3,0,[]⟩) else (ws.set (I1 ws).toNat ⟨true,id⟩,⟨0,I1 ws,[]⟩)
def IZ (os:List AE) (ws:List Wk) (kind k:Int):List Wk×An:=
 if ¬(0≤k∧k≤(ws.length:Int)-1) then (ws,⟨2,0,[]⟩) else
 if (wk ws k.toNat).used=false then (ws,⟨2,0,[]⟩) else
 if kind=9 then (ws.set k.toNat ⟨false,0⟩,⟨0,0,[]⟩) else
 if AA os (wk ws k.toNat).target<0 then (ws,⟨0, -1,[]⟩) else (ws,⟨0,(wk ws k.toNat).target,[]⟩)
theorem XM {ws:List Wk} (h: ¬I1 ws<0):(I1 ws).toNat<ws.length∧I1 ws=((I1 ws).toNat:Int)∧(wk ws (I1 ws).toNat).used=false:=by
 rcases QY ws.length (fun i=> !(wk ws i).used) with ⟨h1,_⟩ | ⟨i,h1,h2,h3,_⟩
 ·unfold I1 at h;omega
 ·have e:I1 ws=i:=h2
  have e2:(I1 ws).toNat=i:=by omega
  rw [e2];exact ⟨h1,e,by simpa using h3⟩
theorem ZY {os:List AE} {ws:List Wk} {c d:List T} {id:Int} {K:J2} (hol:os.length=8) (hwl:ws.length=8) (hid:F64 id) (h:K [I (OC os ws id).2.code,I (OC os ws id).2.val] [tI (OC os ws id).2.freed,tR tW (OC os ws id).1]):cl2 ⟨Try.prog,w0⟩ 147 DX.sg [I id] [tR tO os,tR tW ws,c,d] K:=by
 refine DX.cl2 ?_
 unfold DX.txt
 unfold OC at h
 simp only [AJ,AO,AS,AN,AQ,AG,AK,AI,AR,AT,AU,AM,AL,AP,BP,BU,BW,BT,BV,BS,BQ,AY,A6,A7,A4,A5,A8]
 refine S4 hwl (B5 hid (by omega) (BE (BB (fun hs=> ?_) fun hs=> ?_)))
 ·rw [if_pos hs] at h;exact BY h
 rw [if_neg hs] at h
 refine BE (BB (fun hf=> ?_) fun hf=> ?_)
 ·rw [if_pos hf] at h;exact BY h
 rw [if_neg hf] at h
 obtain ⟨f1,f2,f3⟩:=XM hf
 simp only [AJ,AO,AS,AN,AQ,AG,AK,AI,AR,AT,AU,AM,AL,AP,BP,BU,BW,BT,BV,BS,BQ,AY,A6,A7,A4,A5,A8]
 rw [f2] at h ⊢
 rw [Int.toNat_natCast] at h
 exact BF f1 (R9 (f:=tW) f1 (y:=⟨true,id⟩) rfl h)
theorem WA {os:List AE} {ws:List Wk} {c d:List T} {kind k:Int} {K:J2} (hol:os.length=8) (hwl:ws.length=8) (hk:F64 k) (hwf: ∀w∈ws,F64 w.target) (h:K [I (IZ os ws kind k).2.code,I (IZ os ws kind k).2.val] [tI (IZ os ws kind k).2.freed,tR tW (IZ os ws kind k).1]):cl2 ⟨Try.prog,w0⟩ 148 C8.sg [I kind,I k] [tR tO os,tR tW ws,c,d] K:=by
 refine C8.cl2 ?_
 unfold C8.txt
 unfold IZ at h
 simp only [AJ,AO,AS,AN,AQ,AG,AK,AI,AR,AT,AU,AM,AL,AP,BP,BU,BW,BT,BV,BS,BQ,AY,A6,A7,A4,A5,A8]
 refine YW ⟨by omega,by omega⟩ (FG (HZ ?_))
 by_cases hb: ¬(0≤k∧k≤(ws.length:Int)-1)
 ·rw [if_pos hb] at h
  repeat' (first | exact BY h | refine B9 ?_ | refine J6 (by first | with_reducible assumption | omega) ?_ | refine HR (by first | with_reducible assumption | omega) rfl ?_ | refine CV ?_)
 rw [if_neg hb] at h
 obtain ⟨j,rfl⟩: ∃j:Nat,k=j:=⟨k.toNat,by omega⟩
 rw [Int.toNat_natCast] at h
 have jl:j<ws.length:=by omega
 have hw:=hwf _ (List.getElem_mem jl)
 rw [cG jl] at hw
 cases hu:(wk ws j).used with
 | false=>
   rw [if_pos hu] at h
   repeat' (first | refine gX (v:= .bool false) jl (by simp [tW,hu]) ?_ | exact BY h | refine B9 ?_ | refine D9 (by first | with_reducible assumption | omega) ?_ | refine F8 (by first | with_reducible assumption | omega) rfl ?_ | refine CV ?_ | refine BF (by omega) ?_ | refine DR ?_)
 | true=>
   rw [if_neg (by rw [hu];decide)] at h
   repeat' (first | refine gX (v:= .bool true) jl (by simp [tW,hu]) ?_ | refine B5 hw (by omega) ?_ | refine B9 ?_ | refine D9 (by first | with_reducible assumption | omega) ?_ | refine F8 (by first | with_reducible assumption | omega) rfl ?_ | refine C7 ?_ | refine BE ?_ | refine CT ?_ | refine BF (by omega) ?_ | refine vB (by omega) (by decide) rfl ?_ | refine BB (fun _=> ?_) (fun _=> ?_) | refine DR ?_)
   ·rename_i hh
    rw [if_pos hh] at h
    exact R9 (f:=tW) jl (y:=⟨false,0⟩) rfl h
   ·rename_i hh hs
    rw [if_neg hh,if_pos hs] at h
    exact h
   ·rename_i hh hs
    rw [if_neg hh,if_neg hs] at h
    exact h
end Go.Proofs.Ytklmcfpgdfibnaa.P
namespace Go.Proofs.Ytklmcfpgdfibnaa.P
open Go Go.Proofs.Ytklmcfpgdfibnaa Go.Proofs.Ytklmcfpgdfibnaa.Eng
set_option linter.unusedVariables false
theorem n9 (n:Int):w64 n=(n+9223372036854775808) % 18446744073709551616-9223372036854775808:=by
 simp only [w64,IntKind.wrap,IntKind.bits,IntKind.signed]
 simp
 split <;> omega
theorem LC (a b:Int):w64 (w64 a+b)=w64 (a+b):=by simp only [n9];omega
theorem mC (a:Int):F64 (w64 a):=by rw [n9];exact ⟨by omega,by omega⟩
def FP:Nat→(Nat→Int)→Int
 | 0,_=>0
 | n+1,f=>FP n f+f n
theorem JT {n:Nat} {f g:Nat→Int} (h: ∀k,k<n→f k=g k):FP n f=FP n g:=by
 induction n with
 | zero=>rfl
 | succ n ih=>simp only [FP];rw [ih fun k hk=>h k (by omega),h n (by omega)]
theorem R5 {n k0:Nat} {f g:Nat→Int} (hk:k0<n) (h: ∀k,k<n→k≠k0→f k=g k):FP n g=FP n f+(g k0-f k0):=by
 induction n with
 | zero=>omega
 | succ n ih=>
   simp only [FP]
   by_cases he:k0=n
   ·subst he
    rw [JT (g:=g) fun k hk=>h k (by omega) (by omega)];omega
   ·rw [ih (by omega) fun k hk hne=>h k (by omega) hne,h n (by omega) (by omega)];omega
theorem jF {n:Nat} {f g:Nat→Int}:FP n (fun k=>f k+g k)=FP n f+FP n g:=by
 induction n with
 | zero=>rfl
 | succ n ih=>simp only [FP,ih];omega
theorem H8 {n:Nat} {f:Nat→Int} (h: ∀k,k<n→f k=0):FP n f=0:=by
 induction n with
 | zero=>rfl
 | succ n ih=>simp only [FP];rw [ih fun k hk=>h k (by omega),h n (by omega)];rfl
theorem JM {n:Nat} {f g:Nat→Int} (h: ∀k,k<n→f k≤g k):FP n f≤FP n g:=by
 induction n with
 | zero=>exact Int.le_refl _
 | succ n ih=>simp only [FP];have:=ih fun k hk=>h k (by omega);have:=h n (by omega);omega
theorem EP {l:List Int} {i k:Nat} {v:Int} (hk:k<l.length):gI (l.set k v) i=if i=k then v else gI l i:=by
 unfold gI
 by_cases h:i=k
 ·subst h
  rw [if_pos rfl,List.getD_eq_getElem?_getD,List.getElem?_set_self hk];rfl
 ·rw [if_neg h,List.getD_eq_getElem?_getD,List.getElem?_set_ne (Ne.symm h),List.getD_eq_getElem?_getD]
def BC (os:List AE) (k:Nat):List Int:=((ob os k).field.map (AA os)).filter fun x=>decide (0≤x)
def E (os:List AE) (k i:Nat):Int:=((BC os k).count (i:Int):Nat)
theorem BZ {os:List AE} {k:Nat} {x:Int} (h:x∈BC os k):0≤x∧x.toNat<8∧x=(x.toNat:Int)∧os.length=8∧(ob os x.toNat).live=true:=by
 obtain ⟨h1,h2⟩:=List.mem_filter.1 h
 obtain ⟨f,_,rfl⟩:=List.mem_map.1 h1
 have h2:0≤AA os f:=by simpa using h2
 have:=BH h2
 exact ⟨h2,this.2.2.2.1,by omega,this.1,this.2.2.2.2.1⟩
theorem N7 {os:List AE} (hof: ∀o∈os,OF o) {k:Nat} (hk:k<os.length):(BC os k).length≤3:=by
 have:=List.length_filter_le (fun x=>decide (0≤x)) ((ob os k).field.map (AA os))
 rw [List.length_map,(hof _ (JY hk)).len] at this
 exact this
theorem OI (os:List AE) (k i:Nat):0≤E os k i:=Int.natCast_nonneg _
theorem uB {os:List AE} {k i:Nat} (h:(i:Int)∉BC os k):E os k i=0:=by
 unfold E;rw [List.count_eq_zero.2 h];rfl
inductive Reach (os:List AE) (s:Nat):Nat→Prop
 | refl:Reach os s s
 | step {k:Nat} {j:Int}:Reach os s k→j∈BC os k→Reach os s j.toNat
theorem Reach.trans {os:List AE} {a b c:Nat} (h:Reach os a b) (g:Reach os b c):Reach os a c:=by
 induction g with
 | refl=>exact h
 | step _ hj ih=>exact .step ih hj
theorem Reach.closed {os:List AE} {P:Nat→Prop} {s k:Nat} (h:Reach os s k) (hs:P s) (hc: ∀k,P k→ ∀j∈BC os k,P j.toNat):P k:=by
 induction h with
 | refl=>exact hs
 | step _ hj ih=>exact hc _ ih _ hj
theorem Reach.lt {os:List AE} {s k:Nat} (h:Reach os s k) (hs:s<8):k<8:=h.closed (P:=fun k=>k<8) hs fun _ _ _ hj=>(BZ hj).2.1
def S (os:List AE) (P:Nat→Bool) (i:Nat):Int:=FP 8 fun k=>if P k then E os k i else 0
theorem fS {os:List AE} {P Q:Nat→Bool} {i:Nat} (h: ∀k,k<8→P k=Q k):S os P i=S os Q i:=JT fun k hk=>by rw [h k hk]
theorem nT {os:List AE} {P Q:Nat→Bool} {i k0:Nat} (hk:k0<8) (h0:P k0=false) (h1:Q k0=true) (h: ∀k,k<8→k≠k0→P k=Q k):S os Q i=S os P i+E os k0 i:=by
 unfold S
 rw [R5 (n:=8) (f:=fun k=>if P k then E os k i else 0) (g:=fun k=>if Q k then E os k i else 0) hk fun k hk hne=>by rw [h k hk hne]]
 simp only [h0,h1];simp
theorem YK {os:List AE} {P:Nat→Bool} {i:Nat}:S os P i+S os (fun k=> !P k) i=S os (fun _=>true) i:=by
 unfold S
 rw [←jF]
 refine JT fun k hk=> ?_
 cases h:P k <;> simp [h]
def isC (col:List Int) (c:Int) (k:Nat):Bool:=decide (gI col k=c)
theorem O9 {col:List Int} {c:Int} {k s:Nat} (hs:s<col.length):isC (col.set s c) c k=(decide (k=s)||isC col c k):=by
 unfold isC
 rw [EP hs]
 by_cases h:k=s
 ·simp [h]
 ·simp [h]
def LP (col:List Int) (c:Int):Nat:=(FP 8 fun k=>if isC col c k then 0 else 1).toNat
theorem rU {a b:List Int} {c:Int} (h: ∀k,k<8→gI a k=c→gI b k=c):LP b c≤LP a c:=by
 have:FP 8 (fun k=>if isC b c k then 0 else 1)≤FP 8 (fun k=>if isC a c k then 0 else 1):=JM fun k hk=>by
  by_cases h1:gI a k=c
  ·simp [isC,h1,h k hk h1]
  ·by_cases h3:gI b k=c <;> simp [isC,h1,h3]
 unfold LP;omega
theorem M6 {a b:List Int} {c:Int} {s:Nat} (hs:s<8) (h0:gI a s≠c) (h1:gI b s=c) (h: ∀k,k<8→gI a k=c→gI b k=c):LP b c<LP a c:=by
 have hle:FP 8 (fun k=>if isC b c k then 0 else 1)≤FP 8 (fun k=>if isC a c k∨k=s then 0 else 1):=JM fun k hk=>by
  by_cases h2:gI a k=c
  ·simp [isC,h2,h k hk h2]
  ·by_cases hks:k=s
   ·subst hks;simp [isC,h1]
   ·by_cases h3:gI b k=c <;> simp [isC,h2,h3,hks]
 have hu:=R5 (n:=8) (k0:=s) (f:=fun k=>if isC a c k∨k=s then (0:Int) else 1) (g:=fun k=>if isC a c k then (0:Int) else 1) hs fun k hk hne=>by simp [hne]
 have e1:isC a c s=false:=by simp [isC,h0]
 simp only [e1,or_true,if_true] at hu
 have h3:0≤FP 8 (fun k=>if isC b c k then (0:Int) else 1):=by
  have:=JM (n:=8) (f:=fun _=>0) (g:=fun k=>if isC b c k then (0:Int) else 1) fun k hk=>by split <;> simp
  rw [H8 (fun _ _=>rfl)] at this;exact this
 simp only [Bool.false_eq_true,if_false] at hu
 unfold LP;omega
theorem RU (col:List Int) (c:Int):LP col c≤8:=by
 have:FP 8 (fun k=>if isC col c k then (0:Int) else 1)≤FP 8 (fun _=>1):=JM fun k hk=>by split <;> simp
 have e:FP 8 (fun _=>(1:Int))=8:=rfl
 unfold LP;omega
structure KH (os:List AE) (c m:Int) (cs col cs' col':List Int) (s:Nat):Prop where
 len:cs'.length=8∧col'.length=8
 f: ∀i,i<8→F64 (gI cs' i)
 II: ∀k,k<8→gI col k=c→gI col' k=c
 only: ∀k,k<8→gI col' k≠c→gI col' k=gI col k
 got:gI col' s=c
 clo: ∀k,k<8→gI col' k=c→gI col k≠c→Reach os s k∧ ∀j∈BC os k,gI col' j.toNat=c
 cnt: ∀i,i<8→gI cs' i=w64 (gI cs i+m*(S os (isC col' c) i-S os (isC col c) i))
theorem KH.refl {os:List AE} {c m:Int} {cs col:List Int} {s:Nat} (h1:cs.length=8) (h2:col.length=8) (hf: ∀i,i<8→F64 (gI cs i)) (hs:gI col s=c):KH os c m cs col cs col s:=
 ⟨⟨h1,h2⟩,hf,fun _ _ h=>h,fun _ _ _=>rfl,hs,fun _ _ h1 h2=>absurd h1 h2,fun i hi=>by rw [Int.sub_self,Int.mul_zero,Int.add_zero,G9 (hf i hi)]⟩
end Go.Proofs.Ytklmcfpgdfibnaa.P
