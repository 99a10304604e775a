/- A part of the proof. -/
import Derived.Test.YthapfcoajahegaaAlRecD
import Derived.Test.YthapfcoajahegaaAlRowB
namespace Go.Proofs.Ythapfcoajahegaa.P
open Go Go.Proofs.Ythapfcoajahegaa Go.Proofs.Ythapfcoajahegaa.Eng
set_option linter.unusedVariables false
set_option maxHeartbeats 4000000
set_option linter.unusedVariables false
set_option linter.unusedSimpArgs false
attribute [local irreducible] prP gP gE gF AH ixW ldc ldg ldl stc stg scW mkW apW AP cl2 AX C9 BW
variable {w0:World}
end Go.Proofs.Ythapfcoajahegaa.P
namespace Go.Proofs.Ythapfcoajahegaa.P
open Go Go.Proofs.Ythapfcoajahegaa Go.Proofs.Ythapfcoajahegaa.Eng
set_option linter.unusedVariables false
set_option maxHeartbeats 4000000
set_option linter.unusedVariables false
set_option linter.unusedSimpArgs false
attribute [local irreducible] prP gP gE gF AH ixW ldc ldg ldl stc stg scW mkW apW AP cl2 AX C9 BW
variable {w0:World}
end Go.Proofs.Ythapfcoajahegaa.P
namespace Go.Proofs.Ythapfcoajahegaa.P
open Go Go.Proofs.Ythapfcoajahegaa Go.Proofs.Ythapfcoajahegaa.Eng
set_option linter.unusedVariables false
set_option maxHeartbeats 4000000
set_option linter.unusedVariables false
set_option linter.unusedSimpArgs false
attribute [local irreducible] prP gP gE gF AH ixW ldc ldg ldl stc stg scW mkW apW AP cl2 AX C9 BW
variable {w0:World}
attribute [local irreducible] Z1
end Go.Proofs.Ythapfcoajahegaa.P
namespace Go.Proofs.Ythapfcoajahegaa.P
open Go Go.Proofs.Ythapfcoajahegaa Go.Proofs.Ythapfcoajahegaa.Eng
set_option linter.unusedVariables false
structure AJ where
 s:ByteArray
 al:Int
 re:Int
 rl:Int
 ro:Int
 un:Int
 fr:Int
def DG (r:AJ):List T:=[.c (.string r.s), .c (I r.al), .c (I r.re), .c (I r.rl), .c (I r.ro), .c (I r.un), .c (I r.fr)]
instance tY:Rw DG 7:=⟨by omega,fun _=>rfl⟩
theorem G3 (l:List AJ):cnt 7 (tR DG l)=l.length:=N4 l
abbrev Own:=Int×ByteArray
def tOw (o:Own):List T:=[.c (I o.1), .c (.string o.2)]
instance uB:Rw tOw 2:=⟨by omega,fun _=>rfl⟩
theorem dT (l:List Own):cnt 2 (tR tOw l)=l.length:=N4 l
def rw0 (s:ByteArray):AJ:=⟨s,0,0,0,0,0,0⟩
def rg (R:List AJ) (k:Nat):AJ:=R.getD k (rw0 ⟨#[]⟩)
theorem NT {R:List AJ} {k:Nat} (h:k<R.length):R[k]=rg R k:=by unfold rg;rw [List.getD_eq_getElem?_getD,List.getElem?_eq_getElem h];rfl
theorem RK {R:List AJ} {k:Nat} (h:k<R.length):rg R k∈R:=by rw [←NT h];exact List.getElem_mem h
def wg (W:List Own) (k:Nat):Own:=W.getD k (0,⟨#[]⟩)
theorem oZ {W:List Own} {k:Nat} (h:k<W.length):W[k]=wg W k:=by unfold wg;rw [List.getD_eq_getElem?_getD,List.getElem?_eq_getElem h];rfl
def BP (R:List AJ) (s:ByteArray):Nat:=R.findIdx fun r=>decide (r.s=s)
theorem U8 {R:List AJ} {s:ByteArray} {i:Nat} (hi:i<R.length) (h:(rg R i).s=s) (hb: ∀j,j<i→(rg R j).s≠s):BP R s=i:=by
 unfold BP
 refine (List.findIdx_eq hi).2 ⟨by rw [NT hi];exact decide_eq_true h,fun j hj=> ?_⟩
 rw [NT (by omega)]
 exact decide_eq_false (hb j hj)
theorem TU {R:List AJ} {s:ByteArray} (h: ∀j,j<R.length→(rg R j).s≠s):BP R s=R.length:=by
 unfold BP
 refine List.findIdx_eq_length.2 fun r hr=> ?_
 obtain ⟨j,hj,rfl⟩:=List.getElem_of_mem hr
 rw [NT hj]
 exact decide_eq_false (h j hj)
theorem kR (R:List AJ) (s:ByteArray):BP R s≤R.length:=List.findIdx_le_length
def VQ (W:List Own) (id:Int):Nat→Option ByteArray
 | 0=>none
 | n+1=>if (wg W n).1=id then some (wg W n).2 else VQ W id n
def UK (W:List Own) (id:Int):Option ByteArray:=VQ W id W.length
theorem bK {W V:List Own} {id:Int}: ∀{n:Nat},n≤W.length→VQ (W++V) id n=VQ W id n
 | 0,_=>rfl
 | n+1,h=>by
   have e:wg (W++V) n=wg W n:=by
    unfold wg;rw [List.getD_eq_getElem?_getD,List.getD_eq_getElem?_getD,List.getElem?_append_left (by omega)]
   simp only [VQ,e]
   rw [bK (by omega)]
theorem V6 {W:List Own} {v id:Int} {s:ByteArray}:UK (W++[(v,s)]) id=if v=id then some s else UK W id:=by
 unfold UK
 rw [List.length_append,List.length_singleton]
 have e:wg (W++[(v,s)]) W.length=(v,s):=by unfold wg;simp
 simp only [VQ,e]
 rw [bK (Nat.le_refl _)]
def G5 (R:List AJ) (k:Nat) (f:AJ→AJ):List AJ:=R.set k (f (rg R k))
def bmp (R:List AJ) (s:ByteArray) (f:AJ→AJ):List AJ:=if BP R s<R.length then G5 R (BP R s) f else R
def UA (R:List AJ) (W:List Own) (id:Int):Option Nat:=match UK W id with
 | some s=>if BP R s<R.length then some (BP R s) else none
 | none=>none
def JJ (R:List AJ) (W:List Own) (id:Int) (f:AJ→AJ):List AJ:=match UA R W id with
 | some k=>G5 R k f
 | none=>R
theorem X2 {R:List AJ} {W:List Own} {id:Int} {k:Nat} (h:UA R W id=some k):k<R.length:=by
 unfold UA at h
 split at h
 ·split at h
  ·rename_i hh;cases h;exact hh
  ·cases h
 ·cases h
def kF (k:Int) (r:AJ):AJ:=if k=2 then {r with re:=r.re+1} else if k=3 then {r with rl:=r.rl+1} else if k=5 then {r with ro:=r.ro+1} else if k=6 then {r with un:=r.un+1} else r
def fF (r:AJ):AJ:={r with fr:=r.fr+1}
def aF (r:AJ):AJ:={r with al:=r.al+1}
def frL (R:List AJ) (W:List Own) (l:List Int):List AJ:=l.foldl (fun R id=>JJ R W id fF) R
theorem ZE {R:List AJ} {W:List Own} {l:List Int} {v:Int}:frL R W (l++[v])=JJ (frL R W l) W v fF:=by simp [frL]
def ES (R:List AJ) (s:ByteArray):List AJ:=if BP R s<R.length then R else R++[rw0 s]
def TW (p:List AJ×List Own) (s:ByteArray) (v:Int):List AJ×List Own:=(bmp (ES p.1 s) s aF,p.2++[(v,s)])
def PV (p:List AJ×List Own) (o:Op5) (a:An):List AJ×List Own:=
 if o.kind=1 then TW (frL (JJ p.1 p.2 o.a (kF o.kind)) p.2 a.freed,p.2) o.site a.val else (frL (JJ p.1 p.2 o.a (kF o.kind)) p.2 a.freed,p.2)
def GV (l:List Op5) (a:List An):Nat→List AJ×List Own
 | 0=>([],[])
 | n+1=>if (an a n).code=0 then PV (GV l a n) (po l n) (an a n) else GV l a n
def BdR (R:List AJ) (n:Nat):Prop:= ∀r∈R,(0≤r.al∧r.al≤n)∧(0≤r.re∧r.re≤n)∧(0≤r.rl∧r.rl≤n)∧(0≤r.ro∧r.ro≤n)∧(0≤r.un∧r.un≤n)∧(0≤r.fr∧r.fr≤n)
theorem BdR.mono {R:List AJ} {n m:Nat} (h:BdR R n) (hm:n≤m):BdR R m:=fun r hr=>by
 have:=h r hr;omega
def Inc (f:AJ→AJ):Prop:= ∀r:AJ,(f r).s=r.s∧((f r).al=r.al∨(f r).al=r.al+1)∧((f r).re=r.re∨(f r).re=r.re+1)∧((f r).rl=r.rl∨(f r).rl=r.rl+1)∧((f r).ro=r.ro∨(f r).ro=r.ro+1)∧((f r).un=r.un∨(f r).un=r.un+1)∧((f r).fr=r.fr∨(f r).fr=r.fr+1)
theorem XR (k:Int):Inc (kF k):=fun r=>by
 unfold kF
 repeat' split
 all_goals simp
theorem U3:Inc fF:=fun r=>by simp [fF]
theorem YY:Inc aF:=fun r=>by simp [aF]
theorem LD {R:List AJ} {k:Nat} {f:AJ→AJ}:(G5 R k f).length=R.length:=by simp [G5]
theorem X1 {R:List AJ} {k n:Nat} {f:AJ→AJ} (h:BdR R n) (hk:k<R.length) (hf:Inc f):BdR (G5 R k f) (n+1):=fun r hr=>by
 unfold G5 at hr
 rcases List.mem_or_eq_of_mem_set hr with hr | rfl
 ·have:=h r hr;omega
 ·have h1:=h _ (RK hk)
  obtain ⟨_,h2,h3,h4,h5,h6,h7⟩:=hf (rg R k)
  omega
theorem QX {R:List AJ} {W:List Own} {id:Int} {f:AJ→AJ}:(JJ R W id f).length=R.length:=by
 unfold JJ;split
 ·exact LD
 ·rfl
theorem S9 {R:List AJ} {W:List Own} {id:Int} {n:Nat} {f:AJ→AJ} (h:BdR R n) (hf:Inc f):BdR (JJ R W id f) (n+1):=by
 unfold JJ;split
 ·rename_i k hk;exact X1 h (X2 hk) hf
 ·exact h.mono (by omega)
theorem X6 {R:List AJ} {W:List Own} {l:List Int}:(frL R W l).length=R.length:=by
 induction l generalizing R with
 | nil=>rfl
 | cons v l ih=>simp only [frL,List.foldl_cons] at*;rw [ih,QX]
theorem cO {R:List AJ} {W:List Own} {l:List Int} {n:Nat} (h:BdR R n):BdR (frL R W l) (n+l.length):=by
 induction l generalizing R n with
 | nil=>exact h
 | cons v l ih=>
   simp only [frL,List.foldl_cons] at*
   have:=ih (S9 (W:=W) (id:=v) h U3)
   rw [List.length_cons,show n+(l.length+1)=n+1+l.length by omega];exact this
theorem Q6 {R:List AJ} {s:ByteArray} {n:Nat} (h:BdR R n):BdR (ES R s) n:=by
 unfold ES;split
 ·exact h
 ·intro r hr
  rcases List.mem_append.1 hr with hr | hr
  ·exact h r hr
  ·rw [List.mem_singleton.1 hr];simp [rw0]
theorem HD {R:List AJ} {s:ByteArray}:BP (ES R s) s<(ES R s).length:=by
 unfold ES;split
 ·assumption
 ·rename_i h
  have e:BP (R++[rw0 s]) s≤R.length:=by
   unfold BP
   rw [List.findIdx_append]
   split
   ·omega
   ·have:List.findIdx (fun r=>decide (r.s=s)) [rw0 s]=0:=by simp [List.findIdx_cons,rw0]
    omega
  simp only [List.length_append,List.length_singleton];omega
def bW (a:List An):Nat→Nat
 | 0=>0
 | n+1=>bW a n+2+(an a n).freed.length
theorem TG {l:List Op5} {a:List An}: ∀n,BdR (GV l a n).1 (bW a n)∧(GV l a n).1.length≤n∧(GV l a n).2.length≤n
 | 0=>⟨fun r hr=>by simp [GV] at hr,by simp [GV],by simp [GV]⟩
 | n+1=>by
   obtain ⟨i1,i2,i3⟩:=TG (l:=l) (a:=a) n
   have b1:=cO (W:=(GV l a n).2) (l:=(an a n).freed) (S9 (W:=(GV l a n).2) (id:=(po l n).a) i1 (XR (po l n).kind))
   have l1:(frL (JJ (GV l a n).1 (GV l a n).2 (po l n).a (kF (po l n).kind)) (GV l a n).2 (an a n).freed).length=(GV l a n).1.length:=by rw [X6,QX]
   simp only [GV,bW]
   split
   ·unfold PV
    split
    ·unfold TW bmp
     rw [if_pos HD]
     refine ⟨(X1 (Q6 b1) HD YY).mono (by omega), ?_,by simp;exact i3⟩
     rw [LD]
     unfold ES
     simp only
     split
     ·omega
     ·simp only [List.length_append,List.length_singleton];omega
    ·exact ⟨b1.mono (by omega),by simp only;omega,by simp only;omega⟩
   ·exact ⟨i1.mono (by omega),by omega,by omega⟩
theorem jG {n:Nat} {K:Value→Prop} (h:K (iv n)):ofW (iv n) K:=⟨n,rfl,h⟩
theorem qK {n:Nat} {K:Value→Prop} (h:K (.bool false)):prP (bnM .eql (iv n)) K:=by
 refine AU (a:=(n:Int)) (b:= -1) ?_
 rw [decide_eq_false (by omega)];exact h
theorem n5 {K:Value→Prop} (h:K (.bool true)):prP (bnM .eql (I (-1))) K:=AU (a:= -1) (b:= -1) h
theorem jS {n:Nat} {K:Value→Prop} (h:K (.bool true)):prP (bnM .neq (iv n)) K:=by
 refine CG (a:=(n:Int)) (b:= -1) ?_
 rw [decide_eq_true (by omega)];exact h
theorem eM {K:Value→Prop} (h:K (.bool false)):prP (bnM .neq (I (-1))) K:=CG (a:= -1) (b:= -1) h
theorem WQ {R:List AJ} {k c:Nat} {x:Int} {f:AJ→AJ} {J:List T→Prop} (hk:k<R.length) (hc:c<7) (hv:(DG (rg R k))[c]? =some (.c (I x))) (hy:DG (f (rg R k))=(DG (rg R k)).set c (.c (I (x+1)))) (hx:0≤x∧x+1<2^63) (h:J (tR DG (G5 R k f))):
  ofW (iv (k*7)) fun t21=>ldc (tR DG R) [] (AB t21+c) fun t23=>prP (bnI .add t23 (.int .i64 1)) fun t24=>ofW (iv (k*7)) fun t25=>stc (tR DG R) [] (AB t25+c) t24 J:=by
 rw [←NT hk] at hv hy
 unfold G5 at h
 rw [←NT hk] at h
 refine jG ?_
 rw [BF]
 have e:k*7+c=AB (iv k)*7+c:=by rw [BF]
 rw [e]
 refine C1 hk hc hv (CN ⟨by omega,by omega⟩ (jG ?_))
 rw [BF,e]
 exact cS hk hc hv hy h
set_option maxHeartbeats 4000000
set_option linter.unusedVariables false
set_option linter.unusedSimpArgs false
attribute [local irreducible] prP gP gE gF AH ixW ldc ldg ldl stc stg scW mkW apW AP cl2 AX C9 BW
variable {w0:World}
theorem NM {R:List AJ} {c1:List T} {s:ByteArray} {K:J2} (hl:(R.length:Int)<2^62) (h1:BP R s<R.length→K [iv (BP R s*7)] []) (h2: ¬BP R s<R.length→K [I (-1)] []):cl2 ⟨Try.prog,w0⟩ 34 BI.sg [.string s] [tR DG R,c1] K:=by
 refine BI.cl2 ?_
 unfold BI.txt
 simp only [G3]
 refine BZ (fun i=>[.string s,iv R.length,iv i]) (fun _=>[]) R.length (fun i=> ∀j,j<i→(rg R j).s≠s) rfl rfl (fun j hj=>by omega) (fun F i hi hP hR=> ?_)
 simp only [A4,BA,AV,AW,AY,AQ,A9,A7,AZ,A8,A5,BD,A6,BB,EK,EP,FI,FK,FJ,FH,FG,B2,CB,CE,CC,CA,B9]
 refine AN (AM (fun hlt=> ?_) fun hge=> ?_)
 ·have hlt:i<R.length:=by omega
  refine AO hlt (BV hlt (v:= .string (rg R i).s) (by rw [NT hlt];rfl) (B7 (AM (fun he=> ?_) fun he=> ?_)))
  ·have e:=U8 hlt he hP
   rw [e] at h1
   exact AO hlt (by rw [BF];exact h1 hlt)
  ·refine AT (by omega) (hR hlt fun j hj=> ?_)
   by_cases hji:j=i
   ·rw [hji];exact he
   ·exact hP j (by omega)
 ·have:i=R.length:=by omega
  subst this
  exact h2 (by rw [TU hP];omega)
theorem UI {R:List AJ} {W:List Own} {id:Int} {K:J2} (hl:(R.length:Int)<2^62) (hw:(W.length:Int)<2^62) (h1: ∀k,UA R W id=some k→K [iv (k*7)] []) (h2:UA R W id=none→K [I (-1)] []):cl2 ⟨Try.prog,w0⟩ 31 CO.sg [I id] [tR DG R,tR tOw W] K:=by
 refine CO.cl2 ?_
 unfold CO.txt
 simp only [dT]
 refine DE (a:=(W.length:Int)) ⟨by omega,by omega⟩ ?_
 refine Q2 (α:=Nat) (fun j=>[I id,I ((j:Int)-1)]) (fun _=>[]) (fun j=>j) (fun j=>j≤W.length∧VQ W id W.length=VQ W id j) W.length rfl rfl ⟨Nat.le_refl _,rfl⟩ (fun F j hj hR=> ?_)
 obtain ⟨hj,he⟩:=hj
 simp only [A4,BA,AV,AW,AY,AQ,A9,A7,AZ,A8,A5,BD,A6,BB,EK,EP,FI,FK,FJ,FH,FG,B2,CB,CE,CC,CA,B9]
 refine DL (AM (fun hge=> ?_) fun hlt=> ?_)
 ·obtain ⟨i,rfl⟩: ∃i,j=i+1:=⟨j-1,by omega⟩
  have hi:i<W.length:=by omega
  have ei:((i+1:Nat):Int)-1=(i:Int):=by omega
  rw [ei]
  simp only [VQ] at he
  refine AO hi (BV hi (v:=I (wg W i).1) (by rw [oZ hi];rfl) (AU (AM (fun hid=> ?_) fun hid=> ?_)))
  ·rw [if_pos hid] at he
   refine AO hi (C1 hi (by decide) (v:= .string (wg W i).2) (by rw [oZ hi];rfl) (NM hl (fun hf=> ?_) fun hf=> ?_))
   ·refine h1 _ ?_
    unfold UA UK;rw [he];simp only;rw [if_pos hf]
   ·refine h2 ?_
    unfold UA UK;rw [he];simp only;rw [if_neg hf]
  ·rw [if_neg hid] at he
   exact DE ⟨by omega,by omega⟩ (hR i ⟨by omega,he⟩ (by omega))
 ·have:j=0:=by omega
  subst this
  refine h2 ?_
  unfold UA UK;rw [he];rfl
theorem ZQ {R:List AJ} {W:List Own} {s:ByteArray} {v:Int} {n:Nat} {K:J2} (hl:R.length<2^40) (hw:W.length<2^40) (hb:BdR R n) (hn:n<2^62) (h:K [] [tR DG (TW (R,W) s v).1,tR tOw (TW (R,W) s v).2]):cl2 ⟨Try.prog,w0⟩ 32 CY.sg [.string s,I v] [tR DG R,tR tOw W] K:=by
 refine CY.cl2 ?_
 unfold CY.txt
 simp only [dT,G3]
 have e1:tR tOw W++[T.c (I v),T.c (.string s)]=tR tOw (W++[(v,s)]):=YJ W (v,s)
 rw [e1]
 refine HN rfl (by simp [cnt];omega) (RI (fun xs cs=>xs=[.string s]∧cs=[tR DG (ES R s),tR tOw (W++[(v,s)])]) ?_ fun j hj=> ?_)
 ·rintro xs cs ⟨rfl,rfl⟩
  simp only [A4,BA,AV,AW,AY,AQ,A9,A7,AZ,A8,A5,BD,A6,BB,EK,EP,FI,FK,FJ,FH,FG,B2,CB,CE,CC,CA,B9]
  have al:(ES R s).length≤R.length+1:=by
   unfold ES;split
   ·omega
   ·simp
  have ab:=Q6 (s:=s) hb
  have hf:=HD (R:=R) (s:=s)
  refine NM (by omega) (fun _=> ?_) fun hh=>absurd hf hh
  have hr:=ab _ (RK hf)
  refine WQ (x:=(rg (ES R s) (BP (ES R s) s)).al) (f:=aF) hf (by decide) rfl rfl (by omega) ?_
  simp only [TW,bmp] at h
  rw [if_pos hf] at h
  exact h
 ·have e2:tR DG R++[T.c (.string s),T.c (.int .i64 0),T.c (.int .i64 0),T.c (.int .i64 0),T.c (.int .i64 0),T.c (.int .i64 0),T.c (.int .i64 0)]=tR DG (R++[rw0 s]):=YJ R (rw0 s)
  rw [e2]
  refine NM (by omega) (fun hf=>qK (CT (hj _ _ ⟨rfl, ?_⟩))) fun hf=>n5 (EO (HN rfl (by simp [cnt];omega) (hj _ _ ⟨rfl, ?_⟩)))
  ·unfold ES;rw [if_pos hf]
  ·unfold ES;rw [if_neg hf]
end Go.Proofs.Ythapfcoajahegaa.P
namespace Go.Proofs.Ythapfcoajahegaa.P
open Go Go.Proofs.Ythapfcoajahegaa Go.Proofs.Ythapfcoajahegaa.Eng
set_option linter.unusedVariables false
theorem WB {l:List Int} {i:Nat} (h:i<l.length):l.take (i+1)=l.take i++[gI l i]:=by
 rw [List.take_succ_eq_append_getElem h,I6 h]
theorem RQ {R:List AJ} {k:Nat} {f:AJ→AJ} (h: ∀r,f r=r):G5 R k f=R:=by
 unfold G5;rw [h]
 by_cases hk:k<R.length
 ·rw [←NT hk,List.set_getElem_self]
 ·rw [List.set_eq_of_length_le (by omega)]
set_option maxHeartbeats 4000000
set_option linter.unusedVariables false
set_option linter.unusedSimpArgs false
attribute [local irreducible] prP gP gE gF AH ixW ldc ldg ldl stc stg scW mkW apW AP cl2 AX C9 BW
variable {w0:World}
theorem ZM {R:List AJ} {W:List Own} {o:Op5} {a:An} {n:Nat} {K:J2} (hl:R.length<2^39) (hw:W.length<2^39) (hb:BdR R n) (hn:n+2+a.freed.length<2^62) (h:K [] [tR DG (PV (R,W) o a).1,tR tOw (PV (R,W) o a).2]):cl2 ⟨Try.prog,w0⟩ 23 CX.sg [I o.kind,I o.a,I o.b,I o.c, .string o.site,I a.code,I a.val] [tR DG R,tR tOw W,tI a.freed] K:=by
 refine CX.cl2 ?_
 unfold CX.txt
 obtain ⟨R1,e1⟩: ∃R1,JJ R W o.a (kF o.kind)=R1:=⟨_,rfl⟩
 have hb1:BdR R1 (n+1):=by rw [←e1];exact S9 hb (XR _)
 have hl1:R1.length=R.length:=by rw [←e1];exact QX
 refine RI (fun xs cs=>xs=[I o.kind,I o.a,I o.b,I o.c, .string o.site,I a.code,I a.val]∧cs=[tR DG R1,tR tOw W]) ?_ fun j hj=> ?_
 ·rintro xs cs ⟨rfl,rfl⟩
  simp only [A4,BA,AV,AW,AY,AQ,A9,A7,AZ,A8,A5,BD,A6,BB,EK,EP,FI,FK,FJ,FH,FG,B2,CB,CE,CC,CA,B9]
  try simp only [AQ]
  refine BZ (fun i=>[iv a.freed.length,iv i,I o.kind,I o.a,I o.b,I o.c, .string o.site,I a.code,I a.val]) (fun i=>[tR DG (frL R1 W (a.freed.take i)),tR tOw W]) a.freed.length (fun _=>True) rfl rfl trivial (fun F i hi _ hR=> ?_)
  have fl:(frL R1 W (a.freed.take i)).length=R.length:=by rw [X6,hl1]
  have fb:=cO (W:=W) (l:=a.freed.take i) hb1
  rw [List.length_take,Nat.min_eq_left hi] at fb
  simp only [A4,BA,AV,AW,AY,AQ,A9,A7,AZ,A8,A5,BD,A6,BB,EK,EP,FI,FK,FJ,FH,FG,B2,CB,CE,CC,CA,B9]
  refine AN (AM (fun hlt=> ?_) fun hge=> ?_)
  ·have hlt:i<a.freed.length:=by omega
   have hR:=hR hlt trivial
   rw [WB hlt,ZE] at hR
   generalize frL R1 W (a.freed.take i)=R2 at fl fb hR ⊢
   refine S4 (AO hlt (ldI hlt (UI (by omega) (by omega) (fun k hk=> ?_) fun hk=> ?_)))
   ·have kl:=X2 hk
    have hr:=fb _ (RK kl)
    refine jS (EO ?_)
    simp only [EK]
    refine WQ (x:=(rg R2 k).fr) (f:=fF) kl (by decide) rfl rfl (by omega) (AT (by omega) ?_)
    unfold JJ at hR;rw [hk] at hR
    exact hR
   ·refine eM (CT (AT (by omega) ?_))
    unfold JJ at hR;rw [hk] at hR
    exact hR
  ·have:i=a.freed.length:=by omega
   subst this
   rw [List.take_length] at fl fb ⊢
   unfold PV at h
   simp only [e1] at h
   refine AU (AM (fun hk=> ?_) fun hk=> ?_)
   ·rw [if_pos hk] at h
    exact ZQ (by omega) (by omega) fb (by omega) h
   ·rw [if_neg hk] at h
    exact h
 ·refine UI (by omega) (by omega) (fun k hk=> ?_) fun hk=> ?_
  ·have kl:=X2 hk
   have hr:=hb _ (RK kl)
   unfold JJ at e1;rw [hk] at e1
   simp only at e1
   refine jS (EO (AU (AM (fun h2=> ?_) fun h2=>AU (AM (fun h3=> ?_) fun h3=>AU (AM (fun h5=> ?_) fun h5=>AU (AM (fun h6=> ?_) fun h6=> ?_))))))
   ·exact WQ (x:=(rg R k).re) (f:=kF o.kind) kl (by decide) rfl (by rw [h2];rfl) (by omega) (hj _ _ ⟨rfl,by rw [e1]⟩)
   ·exact WQ (x:=(rg R k).rl) (f:=kF o.kind) kl (by decide) rfl (by rw [h3];rfl) (by omega) (hj _ _ ⟨rfl,by rw [e1]⟩)
   ·exact WQ (x:=(rg R k).ro) (f:=kF o.kind) kl (by decide) rfl (by rw [h5];rfl) (by omega) (hj _ _ ⟨rfl,by rw [e1]⟩)
   ·exact WQ (x:=(rg R k).un) (f:=kF o.kind) kl (by decide) rfl (by rw [h6];rfl) (by omega) (hj _ _ ⟨rfl,by rw [e1]⟩)
   ·refine hj _ _ ⟨rfl, ?_⟩
    rw [←e1,RQ]
    intro r
    unfold kF
    rw [if_neg h2,if_neg h3,if_neg h5,if_neg h6]
  ·unfold JJ at e1;rw [hk] at e1
   exact eM (CT (hj _ _ ⟨rfl,by rw [←e1]⟩))
theorem VO {l:List Op5} {a:List An} {K:J2} (hl:l.length<2^39) (ha:a.length<2^39) (hb: ∀n,n≤a.length→bW a n<2^61) (h:K [] [tR DG (GV l a (min l.length a.length)).1]):cl2 ⟨Try.prog,w0⟩ 9 EI.sg [] [tR tP l,tR tA a] K:=by
 refine EI.cl2 ?_
 unfold EI.txt
 try simp only [AV,AW]
 refine BZ (fun i=>[iv i]) (fun i=>[tR DG (GV l a i).1,tR tOw (GV l a i).2]) (min l.length a.length) (fun _=>True) rfl rfl trivial (fun F i hi _ hR=> ?_)
 obtain ⟨b1,b2,b3⟩:=TG (l:=l) (a:=a) i
 simp only [A4,BA,AV,AW,AY,AQ,A9,A7,AZ,A8,A5,BD,A6,BB,EK,EP,FI,FK,FJ,FH,FG,B2,CB,CE,CC,CA,B9]
 refine AN ?_
 by_cases hil:(i:Int)<(l.length:Int)
 ·rw [decide_eq_true hil]
  refine CH (CH (CH (EY (AN (JM rfl (AM (fun hia=> ?_) fun hia=> ?_))))))
  ·have hil:i<l.length:=by omega
   have hia:i<a.length:=by omega
   have hR:=hR (by omega) trivial
   have hbi:=hb (i+1) (by omega)
   simp only [bW] at hbi
   simp only [GV] at hR
   refine S4 (AO hia (C4 hia (v:=I (an a i).code) rfl (AU (AM (fun hc=> ?_) fun hc=> ?_))))
   ·rw [if_pos hc] at hR
    refine AO hil (FC hil (AO hia (FF hia ?_)))
    simp only [sA,rK,r9,rQ,q9,sD,r6]
    rw [YQ hia]
    exact ZM (by omega) (by omega) b1 (by omega) (AT (by omega) hR)
   ·rw [if_neg hc] at hR
    exact AT (by omega) hR
  ·have:i=min l.length a.length:=by omega
   subst this
   exact h
 ·rw [decide_eq_false hil]
  have:i=min l.length a.length:=by omega
  subst this
  exact CH (CH (CH (EE (JL rfl (CT h)))))
end Go.Proofs.Ythapfcoajahegaa.P
namespace Go.Proofs.Ythapfcoajahegaa.P
open Go Go.Proofs.Ythapfcoajahegaa Go.Proofs.Ythapfcoajahegaa.Eng
set_option linter.unusedVariables false
def nm (R:List AJ):List ByteArray:=R.map (·.s)
theorem aB (R:List AJ) (s:ByteArray):BP R s=(nm R).findIdx fun x=>decide (x=s):=by
 unfold BP nm
 induction R with
 | nil=>rfl
 | cons r R ih=>simp only [List.map_cons,List.findIdx_cons,ih]
theorem eO {R:List AJ} {k:Nat} {f:AJ→AJ} (hf: ∀r,(f r).s=r.s):nm (G5 R k f)=nm R:=by
 unfold nm G5
 rw [List.map_set,hf]
 by_cases hk:k<R.length
 ·rw [←NT hk]
  have:(R[k]).s=(R.map (·.s))[k]'(by simpa using hk):=by simp
  rw [this,List.set_getElem_self]
 ·rw [List.set_eq_of_length_le (by simp;omega)]
theorem p7 {R R':List AJ} (h:nm R=nm R'):R.length=R'.length:=by
 have:=congrArg List.length h
 simpa [nm] using this
theorem eE {R R':List AJ} (h:nm R=nm R') (s:ByteArray):BP R s=BP R' s:=by rw [aB,aB,h]
theorem O7 {R:List AJ} {k:Nat} {f:AJ→AJ} (hf:Inc f) (s:ByteArray):BP (G5 R k f) s=BP R s:=eE (eO fun r=>(hf r).1) s
theorem YU {R:List AJ} {W:List Own} {id:Int} {f:AJ→AJ} (hf:Inc f):nm (JJ R W id f)=nm R:=by
 unfold JJ;split
 ·exact eO fun r=>(hf r).1
 ·rfl
theorem pC {R:List AJ} {W:List Own} {l:List Int}:nm (frL R W l)=nm R:=by
 induction l generalizing R with
 | nil=>rfl
 | cons v l ih=>simp only [frL,List.foldl_cons] at*;rw [ih,YU U3]
theorem fX {R:List AJ} {k j:Nat} {f:AJ→AJ} (hk:k<R.length):rg (G5 R k f) j=if j=k then f (rg R k) else rg R j:=by
 unfold rg G5
 rw [List.getD_eq_getElem?_getD,List.getElem?_set]
 by_cases h:k=j
 ·subst h;simp [hk,rg]
 ·rw [if_neg h,if_neg (Ne.symm h), ←List.getD_eq_getElem?_getD]
theorem gV {R:List AJ} {k m:Nat} {f g:AJ→AJ} (hk:k<R.length) (hm:m<R.length) (h: ∀r,g (f r)=f (g r)):G5 (G5 R m f) k g=G5 (G5 R k g) m f:=by
 have e1:=fX (f:=f) (j:=k) hm
 have e2:=fX (f:=g) (j:=m) hk
 by_cases hkm:k=m
 ·subst hkm
  unfold G5 at*
  rw [if_pos rfl] at e1 e2
  rw [e1,e2,List.set_set,List.set_set,h]
 ·rw [if_neg hkm] at e1
  rw [if_neg (Ne.symm hkm)] at e2
  have a:G5 (G5 R m f) k g=(G5 R m f).set k (g (rg (G5 R m f) k)):=rfl
  have b:G5 (G5 R k g) m f=(G5 R k g).set m (f (rg (G5 R k g) m)):=rfl
  rw [a,b,e1,e2]
  unfold G5
  rw [List.set_comm _ _ (Ne.symm hkm)]
def Kn (R:List AJ) (W:List Own):Prop:= ∀id s,UK W id=some s→BP R s<R.length
theorem Kn.nm {R R':List AJ} {W:List Own} (h:Kn R W) (e:nm R=nm R'):Kn R' W:=fun id s hs=>by
 rw [←eE e, ←p7 e];exact h id s hs
theorem jV {R:List AJ} {x:AJ} {t:ByteArray} (h:BP R t<R.length):BP (R++[x]) t=BP R t:=by
 unfold BP at*
 rw [List.findIdx_append,if_pos h]
theorem W5 {R:List AJ} {s t:ByteArray} (h:BP R t<R.length):BP (ES R s) t=BP R t:=by
 unfold ES;split
 ·rfl
 ·exact jV h
theorem Y9 {R:List AJ} {s:ByteArray}:R.length≤(ES R s).length:=by
 unfold ES;split
 ·omega
 ·simp
theorem hH {R:List AJ} {s:ByteArray} {k:Nat} {f:AJ→AJ} (hf:Inc f) (hk:k<R.length):ES (G5 R k f) s=G5 (ES R s) k f:=by
 unfold ES
 rw [O7 hf,LD]
 split
 ·rfl
 ·have e:rg (R++[rw0 s]) k=rg R k:=by
   unfold rg;rw [List.getD_eq_getElem?_getD,List.getElem?_append_left hk, ←List.getD_eq_getElem?_getD]
  unfold G5
  rw [e,List.set_append_left _ _ hk]
theorem rV {R:List AJ} {W:List Own} {s:ByteArray} {id:Int} (h:Kn R W):JJ (bmp (ES R s) s aF) W id fF=bmp (ES (JJ R W id fF) s) s aF:=by
 have hf:=HD (R:=R) (s:=s)
 have e0:bmp (ES R s) s aF=G5 (ES R s) (BP (ES R s) s) aF:=by unfold bmp;rw [if_pos hf]
 unfold JJ UA
 cases ho:UK W id with
 | none=>rfl
 | some t=>
   have hk:=h id t ho
   have al:=Y9 (R:=R) (s:=s)
   simp only
   rw [e0,O7 YY,LD,W5 hk,if_pos (by omega),if_pos hk]
   simp only
   rw [hH U3 hk]
   have e1:bmp (G5 (ES R s) (BP R t) fF) s aF=G5 (G5 (ES R s) (BP R t) fF) (BP (ES R s) s) aF:=by
    unfold bmp;rw [O7 U3,LD,if_pos hf]
   rw [e1]
   exact gV (by omega) hf fun r=>rfl
theorem sL {W:List Own} {s:ByteArray} {l:List Int}: ∀{R:List AJ},Kn R W→frL (bmp (ES R s) s aF) W l=bmp (ES (frL R W l) s) s aF:=by
 induction l with
 | nil=>intro R _;rfl
 | cons v l ih=>
   intro R h
   have a:frL (bmp (ES R s) s aF) W (v::l)=frL (JJ (bmp (ES R s) s aF) W v fF) W l:=rfl
   have b:frL R W (v::l)=frL (JJ R W v fF) W l:=rfl
   rw [a,b,rV h,ih (h.nm (YU U3).symm)]
theorem nT {R:List AJ} {W:List Own} {id:Int}:JJ R W id (kF 1)=R:=by
 unfold JJ;split
 ·exact RQ fun r=>rfl
 ·rfl
def VL (l:List Op5) (a:List An) (id:Int):Nat→Option ByteArray
 | 0=>none
 | i+1=>if (po l i).kind=1∧(an a i).code=0∧(an a i).val=id then some (po l i).site else VL l a id i
theorem UO {l:List Op5} {a:List An} {id:Int}: ∀n,UK (GV l a n).2 id=VL l a id n
 | 0=>rfl
 | n+1=>by
   simp only [GV,VL]
   by_cases hc:(an a n).code=0
   ·rw [if_pos hc]
    unfold PV
    by_cases hk:(po l n).kind=1
    ·rw [if_pos hk]
     simp only [TW]
     rw [V6,UO n]
     by_cases hv:(an a n).val=id
     ·rw [if_pos hv,if_pos ⟨hk,hc,hv⟩]
     ·rw [if_neg hv,if_neg fun hh=>hv hh.2.2]
    ·rw [if_neg hk,if_neg fun hh=>hk hh.1]
     exact UO n
   ·rw [if_neg hc,if_neg fun hh=>hc hh.2.1]
    exact UO n
theorem m1 {R:List AJ} {s t:ByteArray} (h:BP R t<R.length):BP (ES R s) t<(ES R s).length:=by
 rw [W5 h];have:=Y9 (R:=R) (s:=s);omega
theorem mJ {l:List Op5} {a:List An}: ∀n,Kn (GV l a n).1 (GV l a n).2
 | 0=>fun id s hs=>by simp [GV,UK,VQ] at hs
 | n+1=>by
   have ih:=mJ (l:=l) (a:=a) n
   simp only [GV]
   split
   ·have h1:Kn (frL (JJ (GV l a n).1 (GV l a n).2 (po l n).a (kF (po l n).kind)) (GV l a n).2 (an a n).freed) (GV l a n).2:=ih.nm (by rw [pC,YU (XR _)])
    unfold PV
    split
    ·simp only [TW]
     generalize frL (JJ (GV l a n).1 (GV l a n).2 (po l n).a (kF (po l n).kind)) (GV l a n).2 (an a n).freed=R2 at h1
     intro id s hs
     have hf:=HD (R:=R2) (s:=(po l n).site)
     unfold bmp
     rw [if_pos hf,O7 YY,LD]
     rw [V6] at hs
     split at hs
     ·cases hs;exact hf
     ·exact m1 (h1 id s hs)
    ·exact h1
   ·exact ih
def kT (p:List AJ×List Own) (o:Op5) (a:An):List AJ:=frL (if o.kind=1 then bmp (ES p.1 o.site) o.site aF else JJ p.1 p.2 o.a (kF o.kind)) p.2 a.freed
theorem kG {p:List AJ×List Own} {o:Op5} {a:An} (h:Kn p.1 p.2):kT p o a=(PV p o a).1:=by
 unfold kT PV
 split
 ·rename_i hk
  rw [sL h,hk,nT];rfl
 ·rfl
theorem WA {R:List AJ} {k c:Nat} {x:Int} {f:AJ→AJ} {J:List T→Prop} (hk:k<R.length) (hc:c<7) (hv:(DG (rg R k))[c]? =some (.c (I x))) (hy:DG (f (rg R k))=(DG (rg R k)).set c (.c (I (x+1)))) (hx:0≤x∧x+1<2^63) (h:J (tR DG (G5 R k f))):
  ixW R.length (iv k) fun t=>ldc (tR DG R) [] (AB t*7+c) fun t2=>prP (bnI .add t2 (.int .i64 1)) fun t3=>ixW R.length (iv k) fun t4=>stc (tR DG R) [] (AB t4*7+c) t3 J:=by
 rw [←NT hk] at hv hy
 unfold G5 at h
 rw [←NT hk] at h
 exact AO hk (C1 hk hc hv (CN ⟨by omega,by omega⟩ (AO hk (cS hk hc hv hy h))))
theorem jR {a b c d e f g:T}:cnt 7 [a,b,c,d,e,f,g]=1:=by simp [cnt]
def osS (x:Option ByteArray):ByteArray:=x.getD ⟨#[]⟩
set_option maxHeartbeats 4000000
set_option linter.unusedVariables false
set_option linter.unusedSimpArgs false
attribute [local irreducible] prP gP gE gF AH ixW ldc ldg ldl stc stg scW mkW apW AP cl2 AX C9 BW
variable {w0:World}
theorem SD {l:List Op5} {a:List An} {i:Nat} {id:Int} {K:J2} (hil:i≤l.length) (hia:i≤a.length) (hl:(l.length:Int)<2^60) (h:K [.string (osS (VL l a id i)), .bool (VL l a id i).isSome] []):cl2 ⟨Try.prog,w0⟩ 19 D5.sg [iv i,I id] [tR tP l,tR tA a] K:=by
 refine D5.cl2 ?_
 unfold D5.txt
 try simp only [AV,AW]
 refine BZ (fun j=>[iv i,I id, .string (osS (VL l a id j)), .bool (VL l a id j).isSome,iv j]) (fun _=>[]) i (fun _=>True) rfl rfl trivial (fun F j hj _ hR=> ?_)
 simp only [A4,BA,AV,AW,AY,AQ,A9,A7,AZ,A8,A5,BD,A6,BB,EK,EP,FI,FK,FJ,FH,FG,B2,CB,CE,CC,CA,B9]
 refine AN ?_
 by_cases hlt:(j:Int)<(i:Int)
 ·have hjl:j<l.length:=by omega
  have hja:j<a.length:=by omega
  have hR:=hR (by omega) trivial
  rw [decide_eq_true hlt]
  refine CH (CH (CH (EY (AN ?_))))
  rw [decide_eq_true (show (j:Int)<(a.length:Int) by omega)]
  refine JM rfl (EO (S4 (AO hjl (C5 hjl (v:=I (po l j).kind) rfl (AU ?_)))))
  simp only [VL] at hR
  by_cases hk:(po l j).kind=1
  ·rw [decide_eq_true hk]
   refine CH (CH (EY (AO hja (CH (EY (C4 hja (v:=I (an a j).code) rfl (EY (AU (JM rfl ?_)))))))))
   by_cases hc:(an a j).code=0
   ·rw [decide_eq_true hc]
    refine CH (CH (EY (AO hja (CH (EY (FO hja (c:=1) (v:=I (an a j).val) (by decide) rfl (CH (EY (AU (JM rfl (AM (fun hv=> ?_) fun hv=> ?_)))))))))))
    ·rw [if_pos ⟨hk,hc,hv⟩] at hR
     exact AO hjl (ER hjl (c:=4) (v:= .string (po l j).site) (by decide) rfl (AT (by omega) hR))
    ·rw [if_neg fun hh=>hv hh.2.2] at hR
     exact AT (by omega) hR
   ·rw [decide_eq_false hc]
    rw [if_neg fun hh=>hc hh.2.1] at hR
    exact CH (CH (EE (CH (EE (CH (EE (JL rfl (CT (AT (by omega) hR)))))))))
  ·rw [decide_eq_false hk]
   rw [if_neg fun hh=>hk hh.1] at hR
   exact CH (CH (EE (CH (EE (EE (JL rfl (CH (CH (EE (CH (EE (CH (EE (JL rfl (CT (AT (by omega) hR))))))))))))))))
 ·have:j=i:=by omega
  subst this
  rw [decide_eq_false hlt]
  exact CH (CH (CH (EE (JL rfl (CT h)))))
theorem LP {R:List AJ} {s:ByteArray} {K:J2} (hl:(R.length:Int)<2^62) (h:K [iv (BP R s)] []):cl2 ⟨Try.prog,w0⟩ 20 DD.sg [.string s] [tR DG R] K:=by
 refine DD.cl2 ?_
 unfold DD.txt
 try simp only [G3]
 refine BZ (fun i=>[.string s,iv i]) (fun _=>[]) R.length (fun i=> ∀j,j<i→(rg R j).s≠s) rfl rfl (fun j hj=>by omega) (fun F i hi hP hR=> ?_)
 simp only [A4,BA,AV,AW,AY,AQ,A9,A7,AZ,A8,A5,BD,A6,BB,EK,EP,FI,FK,FJ,FH,FG,B2,CB,CE,CC,CA,B9]
 refine AN (AM (fun hlt=> ?_) fun hge=> ?_)
 ·have hlt:i<R.length:=by omega
  refine AO hlt (BV hlt (v:= .string (rg R i).s) (by rw [NT hlt];rfl) (B7 (AM (fun he=> ?_) fun he=> ?_)))
  ·rw [U8 hlt he hP] at h
   exact h
  ·refine AT (by omega) (hR hlt fun j hj=> ?_)
   by_cases hji:j=i
   ·rw [hji];exact he
   ·exact hP j (by omega)
 ·have:i=R.length:=by omega
  subst this
  rw [TU hP] at h
  exact h
theorem VS {l:List Op5} {a:List An} {K:J2} (hl:l.length<2^39) (ha:a.length<2^39) (hb: ∀n,n≤a.length→bW a n<2^61) (h:K [] [tR DG (GV l a (min l.length a.length)).1]):cl2 ⟨Try.prog,w0⟩ 6 FW.sg [] [tR tP l,tR tA a] K:=by
 refine FW.cl2 ?_
 unfold FW.txt
 try simp only [AV,AW,G3]
 refine BZ (fun i=>[iv i]) (fun i=>[tR DG (GV l a i).1]) (min l.length a.length) (fun _=>True) rfl rfl trivial (fun F i hi _ hR=> ?_)
 obtain ⟨b1,b2,b3⟩:=TG (l:=l) (a:=a) i
 have hkn:=mJ (l:=l) (a:=a) i
 simp only [A4,BA,AV,AW,AY,AQ,A9,A7,AZ,A8,A5,BD,A6,BB,EK,EP,FI,FK,FJ,FH,FG,B2,CB,CE,CC,CA,B9]
 refine AN ?_
 by_cases hil:(i:Int)<(l.length:Int)
 ·rw [decide_eq_true hil]
  refine CH (CH (CH (EY (AN (JM rfl (AM (fun hia=> ?_) fun hia=> ?_))))))
  ·have hil:i<l.length:=by omega
   have hia:i<a.length:=by omega
   have hR:=hR (by omega) trivial
   have hbi:=hb (i+1) (by omega)
   simp only [bW] at hbi
   simp only [GV] at hR
   refine RI (fun xs cs=>xs=[iv i]∧cs=[tR DG (if (an a i).code=0 then PV (GV l a i) (po l i) (an a i) else GV l a i).1]) ?_ fun jn hjn=> ?_
   ·rintro xs cs ⟨rfl,rfl⟩
    exact AT (by omega) hR
   clear hR
   refine AO hia (C4 hia (v:=I (an a i).code) rfl (CG (AM (fun hc=> ?_) fun hc=> ?_)))
   ·rw [if_neg hc] at hjn
    exact hjn _ _ ⟨rfl,rfl⟩
   have hc:(an a i).code=0:=Classical.byContradiction hc
   rw [if_pos hc, ←kG hkn] at hjn
   refine AO hil (ER hil (c:=1) (v:=I (po l i).a) (by decide) rfl (SD (by omega) (by omega) (by omega) ?_))
   have how:=UO (l:=l) (a:=a) (id:=(po l i).a) i
   have hos:=fun id=>UO (l:=l) (a:=a) (id:=id) i
   generalize hp:GV l a i=p at b1 b2 b3 hkn hjn how hos ⊢
   obtain ⟨R,W⟩:=p
   simp only at b1 b2 b3 hkn hjn how hos ⊢
   obtain ⟨R1,e1⟩: ∃R1,(if (po l i).kind=1 then bmp (ES R (po l i).site) (po l i).site aF else JJ R W (po l i).a (kF (po l i).kind))=R1:=⟨_,rfl⟩
   unfold kT at hjn
   simp only [e1] at hjn
   have hb1:BdR R1 (bW a i+1)∧R1.length≤i+1:=by
    rw [←e1]
    split
    ·unfold bmp
     rw [if_pos HD]
     refine ⟨X1 (Q6 b1) HD YY, ?_⟩
     rw [LD];unfold ES;split
     ·omega
     ·simp;omega
    ·exact ⟨S9 b1 (XR _),by rw [QX];omega⟩
   refine RI (fun xs cs=> ∃(s:ByteArray) (is:Bool) (R0:List AJ),xs=[iv i, .string s, .bool is]∧cs=[tR DG R0]∧R0.length≤i+1∧BdR R0 (bW a i)∧R1=if is=true∧BP R0 s<R0.length then G5 R0 (BP R0 s) (if (po l i).kind=1 then aF else kF (po l i).kind) else R0) ?_ fun j22 hj22=> ?_
   rotate_left
   ·refine AO hil (C5 hil (v:=I (po l i).kind) rfl (AU (AM (fun hk=> ?_) fun hk=> ?_)))
    ·rw [if_pos hk] at e1
     have hcr:=G3 R
     have al:(ES R (po l i).site).length≤i+1:=by
      unfold ES;split
      ·omega
      ·simp;omega
     have eR1:R1=if (true=true∧BP (ES R (po l i).site) (po l i).site<(ES R (po l i).site).length) then G5 (ES R (po l i).site) (BP (ES R (po l i).site) (po l i).site) (if (po l i).kind=1 then aF else kF (po l i).kind) else ES R (po l i).site:=by
      rw [if_pos ⟨rfl,HD⟩,if_pos hk, ←e1]
      unfold bmp;rw [if_pos HD]
     refine AO hil (ER hil (c:=4) (v:= .string (po l i).site) (by decide) rfl (LP (by omega) (AU (AM (fun hf=> ?_) fun hf=> ?_))))
     ·have e2:tR DG R++[T.c (.string (po l i).site),T.c (.int .i64 0),T.c (.int .i64 0),T.c (.int .i64 0),T.c (.int .i64 0),T.c (.int .i64 0),T.c (.int .i64 0)]=tR DG (R++[rw0 (po l i).site]):=YJ R (rw0 (po l i).site)
      have:ES R (po l i).site=R++[rw0 (po l i).site]:=by unfold ES;rw [if_neg (by omega)]
      exact HN rfl (by rw [hcr,jR];omega) (hj22 _ _ ⟨_,_,_,rfl,by rw [this, ←e2],al,Q6 b1,eR1⟩)
     ·have hle:=kR R (po l i).site
      have:ES R (po l i).site=R:=by unfold ES;rw [if_pos (by omega)]
      exact hj22 _ _ ⟨_,_,_,rfl,by rw [this],al,Q6 b1,eR1⟩
    ·rw [if_neg hk] at e1
     refine hj22 _ _ ⟨_,_,R,rfl,rfl,by omega,b1, ?_⟩
     rw [←e1,if_neg hk]
     unfold JJ UA
     rw [how]
     cases VL l a (po l i).a i with
     | none=>simp
     | some s=>
       simp only [Option.isSome_some,true_and,osS,Option.getD_some]
       by_cases hf:BP R s<R.length
       ·rw [if_pos hf,if_pos hf]
       ·rw [if_neg hf,if_neg hf]
   rintro xs cs ⟨s,is,R0,rfl,rfl,hl0,hb0,hR1⟩
   simp only [A4,BA,AV,AW,AY,AQ,A9,A7,AZ,A8,A5,BD,A6,BB,EK,EP,FI,FK,FJ,FH,FG,B2,CB,CE,CC,CA,B9]
   try simp only [G3]
   refine LP (by omega) (RI (fun xs cs=>xs=[iv i]∧cs=[tR DG R1]) ?_ fun j38 hj38=> ?_)
   ·rintro xs cs ⟨rfl,rfl⟩
    simp only [A4,BA,AV,AW,AY,AQ,A9,A7,AZ,A8,A5,BD,A6,BB,EK,EP,FI,FK,FJ,FH,FG,B2,CB,CE,CC,CA,B9]
    refine BZ (fun j=>[iv i,iv j]) (fun j=>[tR DG (frL R1 W ((an a i).freed.take j))]) (an a i).freed.length (fun _=>True) rfl rfl trivial (fun G j hj _ hG=> ?_)
    have fl:(frL R1 W ((an a i).freed.take j)).length=R1.length:=X6
    have fb:=cO (W:=W) (l:=(an a i).freed.take j) hb1.1
    rw [List.length_take,Nat.min_eq_left hj] at fb
    simp only [A4,BA,AV,AW,AY,AQ,A9,A7,AZ,A8,A5,BD,A6,BB,EK,EP,FI,FK,FJ,FH,FG,B2,CB,CE,CC,CA,B9]
    refine AO hia (FE hia ?_)
    rw [YQ hia]
    try simp only [AQ,G3]
    refine AN (AM (fun hlt=> ?_) fun hge=> ?_)
    ·have hlt:j<(an a i).freed.length:=by omega
     have hG:=hG hlt trivial
     rw [WB hlt,ZE] at hG
     generalize frL R1 W ((an a i).freed.take j)=R2 at fl fb hG ⊢
     refine S4 (AO hia (FE hia ?_))
     rw [YQ hia]
     try simp only [AQ]
     refine AO hlt (FN hia hlt (SD (by omega) (by omega) (by omega) ?_))
     have ho:=hos (gI (an a i).freed j)
     unfold JJ UA at hG
     rw [ho] at hG
     try simp only [EK,EP]
     cases hs:VL l a (gI (an a i).freed j) i with
     | none=>
       rw [hs] at hG
       refine LP (by omega) ?_
       exact CH (CH (CH (EE (JL rfl (CT (AT (by omega) hG))))))
     | some t=>
       rw [hs] at hG
       simp only [osS,Option.getD_some,Option.isSome_some] at hG ⊢
       refine LP (by omega) ?_
       refine CH (CH (CH (EY (AN (JM rfl (AM (fun hf=> ?_) fun hf=> ?_))))))
       ·have hf:BP R2 t<R2.length:=by omega
        rw [if_pos hf] at hG
        have hr:=fb _ (RK hf)
        exact WA (x:=(rg R2 (BP R2 t)).fr) (f:=fF) hf (by decide) rfl rfl (by omega) (AT (by omega) hG)
       ·have hf: ¬BP R2 t<R2.length:=by omega
        rw [if_neg hf] at hG
        exact AT (by omega) hG
    ·have:j=(an a i).freed.length:=by omega
     subst this
     rw [List.take_length]
     exact hjn _ _ ⟨rfl,rfl⟩
   ·simp only [EK]
    cases is with
    | false=>
      rw [if_neg (by simp)] at hR1
      exact CH (CH (CH (EE (JL rfl (CT (hj38 _ _ ⟨rfl,by rw [hR1]⟩))))))
    | true=>
      refine CH (CH (CH (EY (AN (JM rfl (AM (fun hf=> ?_) fun hf=> ?_))))))
      ·have hf:BP R0 s<R0.length:=by omega
       rw [if_pos ⟨rfl,hf⟩] at hR1
       have hr:=hb0 _ (RK hf)
       refine AO hil (C5 hil (v:=I (po l i).kind) rfl (AU (AM (fun h1=> ?_) fun h1=>AU (AM (fun h2=> ?_) fun h2=>AU (AM (fun h3=> ?_) fun h3=>AU (AM (fun h5=> ?_) fun h5=>AU (AM (fun h6=> ?_) fun h6=> ?_)))))))
       ·rw [if_pos h1] at hR1
        exact WA (x:=(rg R0 (BP R0 s)).al) (f:=aF) hf (by decide) rfl rfl (by omega) (hj38 _ _ ⟨rfl,by rw [hR1]⟩)
       ·rw [if_neg h1] at hR1
        exact WA (x:=(rg R0 (BP R0 s)).re) (f:=kF (po l i).kind) hf (by decide) rfl (by rw [h2];rfl) (by omega) (hj38 _ _ ⟨rfl,by rw [hR1]⟩)
       ·rw [if_neg h1] at hR1
        exact WA (x:=(rg R0 (BP R0 s)).rl) (f:=kF (po l i).kind) hf (by decide) rfl (by rw [h3];rfl) (by omega) (hj38 _ _ ⟨rfl,by rw [hR1]⟩)
       ·rw [if_neg h1] at hR1
        exact WA (x:=(rg R0 (BP R0 s)).ro) (f:=kF (po l i).kind) hf (by decide) rfl (by rw [h5];rfl) (by omega) (hj38 _ _ ⟨rfl,by rw [hR1]⟩)
       ·rw [if_neg h1] at hR1
        exact WA (x:=(rg R0 (BP R0 s)).un) (f:=kF (po l i).kind) hf (by decide) rfl (by rw [h6];rfl) (by omega) (hj38 _ _ ⟨rfl,by rw [hR1]⟩)
       ·rw [if_neg h1,RQ] at hR1
        ·exact hj38 _ _ ⟨rfl,by rw [hR1]⟩
        ·intro r
         unfold kF
         rw [if_neg h2,if_neg h3,if_neg h5,if_neg h6]
      ·rw [if_neg fun hh=>hf (by omega)] at hR1
       exact hj38 _ _ ⟨rfl,by rw [hR1]⟩
  ·have:i=min l.length a.length:=by omega
   subst this
   exact h
 ·rw [decide_eq_false hil]
  have:i=min l.length a.length:=by omega
  subst this
  exact CH (CH (CH (EE (JL rfl (CT h)))))
end Go.Proofs.Ythapfcoajahegaa.P
