/- A part of the proof. -/
import Derived.Test.YtnhicpkhkaihoaaEvWireD
import Derived.Test.YtnhicpkhkaihoaaEvLawTyAnswer
namespace Go.Proofs.Ytnhicpkhkaihoaa.P
open Go Go.Proofs.Ytnhicpkhkaihoaa Go.Proofs.Ytnhicpkhkaihoaa.Eng
set_option maxHeartbeats 4000000
set_option linter.unusedVariables false
set_option linter.unusedSimpArgs false
attribute [local irreducible] prP gP gE gF AI ixW ldc ldg ldl stc stg scW mkW apW BG cl2 BZ EZ DS
variable {w0:World}
theorem oC (s:ByteArray):((rv s).2=0∧(rv s).1=0)∨ ∃j:Nat,1≤j∧j≤7∧j≤s.size∧(rv s).2=j∧0≤(rv s).1∧(rv s).1<2^49∧V (rv s).1=s.extract 0 j:=by
 rcases u7 s with h | ⟨j,h1,h2,h3,h4,h5⟩
 ·exact .inl (by rw [h];exact ⟨rfl,rfl⟩)
 ·have:=Z3 s h2
  exact .inr ⟨j,h1,h2,h3,by rw [h5],by rw [h5];omega,by rw [h5];simp only;omega,by rw [h5];exact (kG h2 h3).2 h4⟩
theorem TQ (s:ByteArray):0≤(rv s).1∧(rv s).1<2^49∧0≤(rv s).2∧(rv s).2≤7∧(rv s).2≤s.size:=by
 rcases oC s with ⟨h1,h2⟩ | ⟨j,h1,h2,h3,h4,h5,h6,_⟩ <;> omega
def zag (n:Int):Int:=if n % 2=0 then n/2 else 0-n/2-1
theorem cT {n:Int} {K:J2} (hn:0≤n∧n<2^62) (h:K [I (zag n)] []):cl2 ⟨Try.prog,w0⟩ 209 I3.sg [I n] [] K:=by
 refine I3.cl2 ?_
 unfold I3.txt
 repeat' (first | refine nW ⟨by omega,by omega⟩ ?_ | refine BI ?_ | refine CV ⟨by omega,by omega⟩ ?_ | refine NU (by omega) (by omega) ?_ | refine gQ (by omega) ⟨by omega,by omega⟩ (by omega) ?_ | refine AH (fun _=> ?_) (fun _=> ?_))
 ·rw [zag,if_pos (by assumption)] at h;exact h
 ·rw [zag,if_neg (by assumption)] at h;exact h
def ri (s:ByteArray):Int×Int:=if (rv s).2=0∨(rv s).1>200000000000000 then (0,0) else (zag (rv s).1,(rv s).2)
theorem vI (s:ByteArray): -100000000000001≤(ri s).1∧(ri s).1≤100000000000001∧0≤(ri s).2∧(ri s).2≤7∧(ri s).2≤s.size:=by
 have h:=TQ s
 unfold ri;split
 ·simp only;omega
 ·simp only
  refine ⟨?_, ?_,by omega,by omega,by omega⟩
  ·unfold zag;split <;> omega
  ·unfold zag;split <;> omega
attribute [irreducible] ri zag
theorem WH {s:ByteArray} {K:J2} (hs:(s.size:Int)<2^62) (h:K [I (ri s).1,I (ri s).2] []):cl2 ⟨Try.prog,w0⟩ 165 FD.sg [.string s] [] K:=by
 refine FD.cl2 ?_
 unfold FD.txt
 have hb:=TQ s
 repeat' (first | refine LR hs ?_ | refine cT ⟨by omega,by omega⟩ ?_ | refine BP ?_ | refine EY (by first | with_reducible assumption | omega) rfl ?_ | refine FV (by first | with_reducible assumption | omega) rfl ?_ | refine CQ ?_ | refine A1 ?_ | refine BI ?_ | refine AH (fun _=> ?_) (fun _=> ?_) | refine L9 (fun _=> ?_) (fun _=> ?_) | simp only [AJ,AQ,AL,AR,AO,AE,AG,AU,AN,AS,AV,AP,AM,AT,BN,BS,BV,BT,BW,BU,BO,A9,A6,A4,A7,A8,A5])
 ·rw [ri,if_pos (by omega)] at h;exact h
 ·rw [ri,if_neg (by omega)] at h;exact h
 ·rw [ri,if_pos (by omega)] at h;exact h
def rt (s:ByteArray):ByteArray×Int:=if (rv s).2=0∨(rv s).1>8∨(rv s).1>s.size-(rv s).2 then (⟨#[]⟩,0) else (s.extract (rv s).2.toNat ((rv s).2+(rv s).1).toNat,(rv s).2+(rv s).1)
theorem uH (s:ByteArray):0≤(rt s).2∧(rt s).2≤s.size∧(rt s).1.size≤8:=by
 have h:=TQ s
 unfold rt;split
 ·refine ⟨by simp only;omega,by simp only;omega,Nat.zero_le _⟩
 ·refine ⟨by simp only;omega,by simp only;omega, ?_⟩
  simp only [ByteArray.size_extract];omega
attribute [irreducible] rt
theorem T9 {s:ByteArray} {K:J2} (hs:(s.size:Int)<2^62) (h:K [.string (rt s).1,I (rt s).2] []):cl2 ⟨Try.prog,w0⟩ 168 EH.sg [.string s] [] K:=by
 refine EH.cl2 ?_
 unfold EH.txt
 have hb:=TQ s
 repeat' (first | refine LR hs ?_ | refine sR (by omega) (by omega) (by omega) ?_ | refine BP ?_ | refine RJ ?_ | refine SG (by first | with_reducible assumption | omega) ?_ | refine I5 (by first | with_reducible assumption | omega) ?_ | refine EY (by first | with_reducible assumption | omega) rfl ?_ | refine FV (by first | with_reducible assumption | omega) rfl ?_ | refine TZ rfl ?_ | refine CQ ?_ | refine A1 ?_ | refine BI ?_ | refine G8 ?_ | refine CV ⟨by omega,by omega⟩ ?_ | refine AH (fun _=> ?_) (fun _=> ?_) | refine L9 (fun _=> ?_) (fun _=> ?_))
 all_goals first
  | (rw [rt,if_pos (by omega)] at h;exact h)
  | (rw [rt,if_neg (by omega)] at h;exact h)
structure Frm where
 seq:Int
 pay:ByteArray
 n:Int
def rv2 (s:ByteArray):Int×Int:=rv (dr s (rv s).2.toNat)
theorem sS (s:ByteArray):0≤(rv2 s).1∧(rv2 s).1<2^49∧0≤(rv2 s).2∧(rv2 s).2≤7∧(rv2 s).2+(rv s).2≤s.size:=by
 have h:=TQ s
 have h2:=TQ (dr s (rv s).2.toNat)
 rw [H9] at h2
 unfold rv2;omega
def oL (s:ByteArray):ByteArray:=s.extract ((rv s).2+(rv2 s).2).toNat ((rv s).2+(rv2 s).2+(rv2 s).1).toNat
def eX (s:ByteArray):Prop:=(rv s).2=0∨(rv2 s).2=0∨(rv2 s).1>200∨(rv2 s).1>s.size-(rv s).2-(rv2 s).2-4
instance (s:ByteArray):Decidable (eX s):=inferInstanceAs (Decidable (_∨_))
def rf (s:ByteArray):Frm:=if eX s∨frm (rv s).1 (oL s)≠s.extract 0 ((rv s).2+(rv2 s).2+(rv2 s).1+4).toNat then ⟨0,⟨#[]⟩,0⟩ else ⟨(rv s).1,oL s,(rv s).2+(rv2 s).2+(rv2 s).1+4⟩
theorem uS (s:ByteArray):0≤(rf s).n∧(rf s).n≤s.size∧((rf s).n≠0→6≤(rf s).n)∧(rf s).pay.size≤200∧F64 (rf s).seq:=by
 have h:=TQ s
 have h2:=sS s
 unfold rf;split
 ·exact ⟨by simp only;omega,by simp only;omega,fun hh=>absurd rfl hh,Nat.zero_le _,by simp only;exact ⟨by omega,by omega⟩⟩
 ·rename_i hn
  simp only [not_or,eX] at hn
  refine ⟨by simp only;omega,by simp only;omega,fun _=>by simp only;omega, ?_,by simp only;exact ⟨by omega,by omega⟩⟩
  simp only [oL,ByteArray.size_extract];omega
attribute [irreducible] rf rv2 oL
end Go.Proofs.Ytnhicpkhkaihoaa.P
namespace Go.Proofs.Ytnhicpkhkaihoaa.P
open Go Go.Proofs.Ytnhicpkhkaihoaa Go.Proofs.Ytnhicpkhkaihoaa.Eng
set_option maxHeartbeats 4000000
set_option linter.unusedVariables false
set_option linter.unusedSimpArgs false
attribute [local irreducible] prP gP gE gF AI ixW ldc ldg ldl stc stg scW mkW apW BG cl2 BZ EZ DS
variable {w0:World}
def rlF:Nat→ByteArray→List ByteArray→List ByteArray×Int
 | 0,_,_=>([],4)
 | f+1,s,out=>if s.size=0 then ([],4) else if (rf s).n=0 then ([],2) else if (rf s).seq≠out.length then ([],3) else
    if (rf s).pay=⟨#[]⟩ then (if (rf s).n<s.size then ([],5) else (out,0)) else rlF f (dr s (rf s).n.toNat) (out++[(rf s).pay])
def rl (s:ByteArray):List ByteArray×Int:=if s.size<5∨s.extract 0 5≠uV then ([],1) else rlF (s.size+1) (dr s 5) []
structure RlI (s0 s:ByteArray) (out:List ByteArray):Prop where
 sz:s.size+out.length≤s0.size
 go: ∃f,s.size<f∧rlF f s out=rl s0
theorem RlI.next {s0 s:ByteArray} {out:List ByteArray} (h:RlI s0 s out) (h0:s.size≠0) (h1:(rf s).n≠0) (h2:(rf s).seq=out.length) (h3:(rf s).pay≠⟨#[]⟩):RlI s0 (dr s (rf s).n.toNat) (out++[(rf s).pay]):=by
 obtain ⟨g1,f,g2,g3⟩:=h
 have hb:=uS s
 have:=hb.2.2.1 h1
 obtain ⟨f,rfl⟩: ∃f',f=f'+1:=⟨f-1,by omega⟩
 rw [rlF,if_neg h0,if_neg h1,if_neg (by simpa using h2),if_neg h3] at g3
 exact ⟨by rw [H9,List.length_append,List.length_singleton];omega,f,by rw [H9];omega,g3⟩
theorem RlI.at_ {s0 s:ByteArray} {out:List ByteArray} (h:RlI s0 s out): ∃f,rlF (f+1) s out=rl s0:=by
 obtain ⟨_,f,g2,g3⟩:=h
 obtain ⟨f,rfl⟩: ∃f',f=f'+1:=⟨f-1,by omega⟩
 exact ⟨f,g3⟩
attribute [irreducible] rl
end Go.Proofs.Ytnhicpkhkaihoaa.P
namespace Go.Proofs.Ytnhicpkhkaihoaa.P
open Go Go.Proofs.Ytnhicpkhkaihoaa Go.Proofs.Ytnhicpkhkaihoaa.Eng
set_option maxHeartbeats 4000000
set_option linter.unusedVariables false
set_option linter.unusedSimpArgs false
attribute [local irreducible] prP gP gE gF AI ixW ldc ldg ldl stc stg scW mkW apW BG cl2 BZ EZ DS
variable {w0:World}
def rdI (r:ByteArray):Option (Int×ByteArray):=if (ri r).2=0 then none else some ((ri r).1,dr r (ri r).2.toNat)
def rdN (r:ByteArray):Option (Int×ByteArray):=if (rv r).2=0 then none else some ((rv r).1,dr r (rv r).2.toNat)
def rdT (r:ByteArray):Option (ByteArray×ByteArray):=if (rt r).2=0 then none else some ((rt r).1,dr r (rt r).2.toNat)
def EL {β:Type} (f:List Int→Option β):Nat→List Int→Int→ByteArray→Option β
 | 0,acc,_,_=>f acc
 | m+1,acc,last,r=>(rdI r).bind fun p=>EL f m (acc++[w64 (last+p.1)]) (w64 (last+p.1)) p.2
abbrev Ev:=Op5×An
def E8 (o:Op5) (code val:Int) (r:ByteArray):Option Ev:=(rdN r).bind fun p=>if p.1>8 then none else EL (fun fr=>some (o,⟨code,val,fr⟩)) p.1.toNat [] o.a p.2
def E7 (o:Op5) (code:Int) (r:ByteArray):Option Ev:=(rdI r).bind fun p=>E8 o code (w64 (o.a+p.1)) p.2
def E6 (o:Op5) (r:ByteArray):Option Ev:=(rdN r).bind fun p=>E7 o p.1 p.2
def E5 (l:List ByteArray) (kind a b c k:Int) (r:ByteArray):Option Ev:=if k=0 then (rdT r).bind fun p=>E6 ⟨kind,a,b,c,p.1⟩ p.2 else if k≤l.length then E6 ⟨kind,a,b,c,gS l (k-1).toNat⟩ r else none
def E4 (l:List ByteArray) (kind a b c:Int) (r:ByteArray):Option Ev:=(rdN r).bind fun p=>E5 l kind a b c p.1 p.2
def E3 (l:List ByteArray) (kind a b:Int) (r:ByteArray):Option Ev:=(rdI r).bind fun p=>E4 l kind a b (w64 (a+p.1)) p.2
def E2 (l:List ByteArray) (kind a:Int) (r:ByteArray):Option Ev:=(rdI r).bind fun p=>E3 l kind a p.1 p.2
def E1 (last:Int) (l:List ByteArray) (kind:Int) (r:ByteArray):Option Ev:=(rdI r).bind fun p=>E2 l kind (w64 (last+p.1)) p.2
def E0 (last:Int) (l:List ByteArray) (s:ByteArray):Option Ev:=(rdI s).bind fun p=>E1 last l p.1 p.2
def vJ (last:Int) (l:List ByteArray) (s:ByteArray) (e:Ev):Prop:=(C8 last l e.1 e.2).1≠⟨#[]⟩∧(C8 last l e.1 e.2).1=s
instance (last:Int) (l:List ByteArray) (s:ByteArray) (e:Ev):Decidable (vJ last l s e):=inferInstanceAs (Decidable (_∧_))
structure RE where
 o:Op5
 a:An
 last:Int
 sites:List ByteArray
 ok:Bool
def CP (last:Int) (l:List ByteArray) (s:ByteArray):RE:=match E0 last l s with
 | none=>⟨⟨0,0,0,0,⟨#[]⟩⟩,⟨0,0,[]⟩,last,l,false⟩
 | some e=>if vJ last l s e then ⟨e.1,e.2,(C8 last l e.1 e.2).2.1,(C8 last l e.1 e.2).2.2,true⟩ else ⟨⟨0,0,0,0,⟨#[]⟩⟩,⟨0,0,[]⟩,last,l,false⟩
structure T2 (X:Option Ev) (b:Bool) (Y:Option Ev):Prop where
 go:b=false→X=Y
 no:b=true→X=none
theorem dY {r:ByteArray} {b:Bool} {k:Int} {K:J2} (hk:0≤k∧k≤r.size) (h:K [.string (dr r k.toNat), .bool (if k=0 then true else b)] []):cl2 ⟨Try.prog,w0⟩ 166 BJ.sg [.string r, .bool b,I k] [] K:=by
 refine BJ.cl2 ?_
 unfold BJ.txt
 refine BX (BI (AH (fun h0=> ?_) fun h0=> ?_))
 ·rw [if_pos h0] at h
  exact aP hk.1 hk.2 h
 ·rw [if_neg h0] at h
  exact aP hk.1 hk.2 h
theorem NJ {r:ByteArray} {b:Bool} {X:Option Ev} {g:Int→ByteArray→Option Ev} {K:J2} (hr:(r.size:Int)<2^61) (hi:T2 X b ((rdI r).bind fun p=>g p.1 p.2))
  (h: ∀v r' b',T2 X b' (g v r')→ -100000000000001≤v∧v≤100000000000001→r'.size≤r.size→(b'=false→r'.size<r.size)→K [I v, .string r', .bool b'] []):cl2 ⟨Try.prog,w0⟩ 100 BH.sg [.string r, .bool b] [] K:=by
 have hb:=vI r
 refine BH.cl2 (WH (by omega) (dY ⟨by omega,by omega⟩ ?_))
 refine h _ _ _ ⟨fun h0=> ?_,fun h0=> ?_⟩ ⟨by omega,by omega⟩ (by rw [H9];omega) (fun h0=> ?_)
 ·split at h0
  ·cases h0
  ·rename_i hne
   rw [hi.go h0,rdI,if_neg hne];rfl
 ·split at h0
  ·rename_i he
   cases b with
   | true=>exact hi.no rfl
   | false=>rw [hi.go rfl,rdI,if_pos he];rfl
  ·exact hi.no h0
 ·split at h0
  ·cases h0
  ·rw [H9];omega
theorem lT {r:ByteArray} {b:Bool} {X:Option Ev} {g:Int→ByteArray→Option Ev} {K:J2} (hr:(r.size:Int)<2^61) (hi:T2 X b ((rdN r).bind fun p=>g p.1 p.2))
  (h: ∀v r' b',T2 X b' (g v r')→0≤v∧v<2^49→r'.size≤r.size→K [I v, .string r', .bool b'] []):cl2 ⟨Try.prog,w0⟩ 101 B4.sg [.string r, .bool b] [] K:=by
 have hb:=TQ r
 refine B4.cl2 (LR (by omega) (dY ⟨by omega,by omega⟩ ?_))
 refine h _ _ _ ⟨fun h0=> ?_,fun h0=> ?_⟩ ⟨by omega,by omega⟩ (by rw [H9];omega)
 ·split at h0
  ·cases h0
  ·rename_i hne
   rw [hi.go h0,rdN,if_neg hne];rfl
 ·split at h0
  ·rename_i he
   cases b with
   | true=>exact hi.no rfl
   | false=>rw [hi.go rfl,rdN,if_pos he];rfl
  ·exact hi.no h0
theorem qW {r:ByteArray} {b:Bool} {X:Option Ev} {g:ByteArray→ByteArray→Option Ev} {K:J2} (hr:(r.size:Int)<2^61) (hi:T2 X b ((rdT r).bind fun p=>g p.1 p.2))
  (h: ∀v r' b',T2 X b' (g v r')→v.size≤8→r'.size≤r.size→K [.string v, .string r', .bool b'] []):cl2 ⟨Try.prog,w0⟩ 102 CC.sg [.string r, .bool b] [] K:=by
 have hb:=uH r
 refine CC.cl2 (T9 (by omega) (dY ⟨by omega,by omega⟩ ?_))
 refine h _ _ _ ⟨fun h0=> ?_,fun h0=> ?_⟩ (by omega) (by rw [H9];omega)
 ·split at h0
  ·cases h0
  ·rename_i hne
   rw [hi.go h0,rdT,if_neg hne];rfl
 ·split at h0
  ·rename_i he
   cases b with
   | true=>exact hi.no rfl
   | false=>rw [hi.go rfl,rdT,if_pos he];rfl
  ·exact hi.no h0
theorem T2.start {X Y:Option Ev} (h:X=Y):T2 X false Y:=⟨fun _=>h,fun h=>by cases h⟩
theorem T2.off {X:Option Ev} {b:Bool} (h:T2 X b none):X=none:=by
 cases b with
 | true=>exact h.no rfl
 | false=>exact h.go rfl
theorem WR {n:Int} {l:List ByteArray} {o:Op5} {a:An} (h:8<a.freed.length):(C8 n l o a).1=⟨#[]⟩:=by
 unfold C8 HQ
 rw [if_neg]
 intro hok
 have:=(LQ hok).2.2.2.2.2.2.2.1
 omega
structure LpI (X:Option Ev) (o:Op5) (code val n:Int) (q:Nat×Int×List Int×ByteArray×Bool) (s0:ByteArray):Prop where
 inv:n≤8→T2 X q.2.2.2.2 (EL (fun fr=>some (o,⟨code,val,fr⟩)) (n.toNat-q.1) q.2.2.1 q.2.1 q.2.2.2.1)
 big:n>8→X=none
 le:q.1≤n
 len:q.2.2.1.length=q.1
 sz:q.2.2.2.2=false→q.2.2.2.1.size+q.1≤s0.size
 sz2:q.2.2.2.1.size≤s0.size
 sz3:q.1≤s0.size+1
attribute [irreducible] rdI rdN rdT
theorem ND {n:Int} {l:List ByteArray} {s:ByteArray} {K:J2} (hl:l.length<2^40) (hs:(s.size:Int)<2^40)
  (h:K [I (CP n l s).o.kind,I (CP n l s).o.a,I (CP n l s).o.b,I (CP n l s).o.c, .string (CP n l s).o.site,I (CP n l s).a.code,I (CP n l s).a.val,I (CP n l s).last, .bool (CP n l s).ok] [tI (CP n l s).a.freed,tS (CP n l s).sites]):
  cl2 ⟨Try.prog,w0⟩ 35 DF.sg [I n, .string s] [tS l] K:=by
 refine DF.cl2 ?_
 unfold DF.txt
 simp only [AJ,AQ,AL,AR,AO,AE,AG,AU,AN,AS,AV,AP,AM,AT,BN,BS,BV,BT,BW,BU,BO,A9,A6,A4,A7,A8,A5]
 obtain ⟨X,hX⟩: ∃X,E0 n l s=X:=⟨_,rfl⟩
 have fail:X=none→K [I 0,I 0,I 0,I 0, .string ⟨#[]⟩,I 0,I 0,I n, .bool false] [[],tS l]:=fun hx=>by
  have:CP n l s=⟨⟨0,0,0,0,⟨#[]⟩⟩,⟨0,0,[]⟩,n,l,false⟩:=by rw [CP,hX,hx]
  rw [this] at h;exact h
 refine NJ (X:=X) (g:=E1 n l) (by omega) (.start (by rw [←hX,E0])) fun v1 r1 b1 i1 _ z1 _=> ?_
 refine NJ (X:=X) (g:=fun v=>E2 l v1 (w64 (n+v))) (by omega) (by rw [E1] at i1;exact i1) fun v2 r2 b2 i2 _ z2 _=> ?_
 refine GS ?_
 generalize w64 (n+v2)=A at i2 ⊢
 refine NJ (X:=X) (g:=fun v=>E3 l v1 A v) (by omega) (by rw [E2] at i2;exact i2) fun v3 r3 b3 i3 _ z3 _=> ?_
 refine NJ (X:=X) (g:=fun v=>E4 l v1 A v3 (w64 (A+v))) (by omega) (by rw [E3] at i3;exact i3) fun v4 r4 b4 i4 _ z4 _=> ?_
 refine GS ?_
 generalize w64 (A+v4)=Cc at i4 ⊢
 refine lT (X:=X) (g:=fun v=>E5 l v1 A v3 Cc v) (by omega) (by rw [E4] at i4;exact i4) fun v5 r5 b5 i5 _ z5=> ?_
 refine gA (fun ys cs=>cs=[]∧ ∃nm r6 b6,ys=[.string s,I n,I 0,I 0,I 0,I 0, .string ⟨#[]⟩,I 0,I 0,I 0, .string r6, .bool b6,I v1,I A,I v3,I Cc, .string nm,I 0,I 0]∧T2 X b6 (E6 ⟨v1,A,v3,Cc,nm⟩ r6)∧r6.size≤s.size) (fun ys cs hp=> ?_) fun j hj=> ?_
 ·obtain ⟨rfl,nm,r6,b6,rfl,i6,z6⟩:=hp
  refine lT (X:=X) (g:=fun v=>E7 ⟨v1,A,v3,Cc,nm⟩ v) (by omega) (by rw [E6] at i6;exact i6) fun v7 r7 b7 i7 _ z7=> ?_
  refine NJ (X:=X) (g:=fun v=>E8 ⟨v1,A,v3,Cc,nm⟩ v7 (w64 (A+v))) (by omega) (by rw [E7] at i7;exact i7) fun v8 r8 b8 i8 _ z8 _=> ?_
  refine GS ?_
  simp only [BN,BS]
  generalize w64 (A+v8)=Vv at i8 ⊢
  refine lT (X:=X) (g:=fun v r=>if v>8 then none else EL (fun fr=>some (⟨v1,A,v3,Cc,nm⟩,⟨v7,Vv,fr⟩)) v.toNat [] A r) (by omega) (by rw [E8] at i8;exact i8) fun v9 r9 b9 i9 hv9 z9=> ?_
  refine FA (α:=Nat×Int×List Int×ByteArray×Bool) (fun q=>[.string s,I v9,I q.2.1,iv q.1,I n,I 0,I 0,I 0,I 0, .string ⟨#[]⟩,I 0,I 0,I 0, .string q.2.2.2.1, .bool q.2.2.2.2,I v1,I A,I v3,I Cc, .string nm,I v7,I Vv]) (fun q=>[tI q.2.2.1]) (fun q=>s.size+2-q.1)
   (fun q=>LpI X ⟨v1,A,v3,Cc,nm⟩ v7 Vv v9 q s) (0,A,[],r9,b9) rfl rfl ⟨fun h8=>by rw [if_neg (by omega)] at i9;exact i9,fun h8=>by rw [if_pos h8] at i9;exact i9.off,by simp only;omega,rfl,fun _=>by simp only;omega,by simp only;omega,by simp only;omega⟩ (fun R q hq hR=> ?_)
  obtain ⟨i,la,acc,r,b⟩:=q
  obtain ⟨inv,big,le,len,sz,sz2,sz3⟩:=hq
  simp only at inv big le len sz sz2 sz3
  simp only [AJ,AQ,AL,AR,AO,AE,AG,AU,AN,AS,AV,AP,AM,AT,BN,BS,BV,BT,BW,BU,BO,A9,A6,A4,A7,A8,A5]
  have fin:(b=true∨(b=false∧(i:Int)=v9))→cl2 ⟨Try.prog,w0⟩ 51 CM.sg [I n,I v1,I A,I v3,I Cc, .string nm,I v7,I Vv] [tS l,tI acc] fun v58 d59=>
    gE (.bool b) (gP (.bool b) false (prP (bnS .eql (nx v58 0) (.string {data:= #[]}))) fun t110_60=>prP (pk (.bool b) (.bool true) t110_60) fun t111_61=>gE t111_61 (gE t111_61 (gP t111_61 false (prP (bnS .neq (nx v58 0) (.string s))) fun t115_62=>prP (pk t111_61 (.bool true) t115_62) fun t116_63=>
     AI t116_63 (cl2 ⟨Try.prog,w0⟩ 103 DH.sg [I n] [tS l] fun v64 d65=>K [(.int .i64 0),(.int .i64 0),(.int .i64 0),(.int .i64 0),(.string {data:= #[]}),(.int .i64 0),(.int .i64 0),(nx v64 0),(.bool false)] [[],(nxc d65 0)])
      (K [I v1,I A,I v3,I Cc, .string nm,I v7,I Vv,(nx v58 1),(.bool true)] [tI acc,(nxc d59 0)])))):=fun hf=>by
   refine NB hl (by omega) ?_
   have hsh:HQ n l v1 A v3 Cc nm v7 Vv acc=C8 n l ⟨v1,A,v3,Cc,nm⟩ ⟨v7,Vv,acc⟩:=by rw [C8]
   rw [hsh]
   have out:(b=true∨(C8 n l ⟨v1,A,v3,Cc,nm⟩ ⟨v7,Vv,acc⟩).1=⟨#[]⟩∨(C8 n l ⟨v1,A,v3,Cc,nm⟩ ⟨v7,Vv,acc⟩).1≠s)→cl2 ⟨Try.prog,w0⟩ 103 DH.sg [I n] [tS l] fun v64 d65=>K [(.int .i64 0),(.int .i64 0),(.int .i64 0),(.int .i64 0),(.string {data:= #[]}),(.int .i64 0),(.int .i64 0),(nx v64 0),(.bool false)] [[],(nxc d65 0)]:=fun hb=>by
    refine PA (by omega) ?_
    by_cases h8:v9>8
    ·exact fail (big h8)
    ·have hi:=inv (by omega)
     rcases hf with rfl | ⟨rfl,hiv⟩
     ·exact fail (hi.no rfl)
     ·have hx:=hi.go rfl
      have e0:v9.toNat-i=0:=by omega
      rw [e0,EL] at hx
      have:CP n l s=⟨⟨0,0,0,0,⟨#[]⟩⟩,⟨0,0,[]⟩,n,l,false⟩:=by
       rw [CP,hX,hx]
       simp only
       rw [if_neg]
       rintro ⟨g1,g2⟩
       rcases hb with hb | hb | hb
       ·cases hb
       ·exact g1 hb
       ·exact hb g2
      rw [this] at h;exact h
   cases b with
   | true=>repeat' (first | exact out (.inl rfl) | refine BP ?_ | refine RJ ?_ | refine TZ rfl ?_ | refine CQ ?_)
   | false=>
     repeat' (first | exact out (.inr (.inl (by assumption))) | exact out (.inr (.inr (by assumption))) | refine BP ?_ | refine O2 ?_ | refine EY (by first | with_reducible assumption | omega) rfl ?_ | refine FV (by first | with_reducible assumption | omega) rfl ?_ | refine ZW rfl ?_ | refine CQ ?_ | refine OK ?_ | refine Q6 ?_ | refine AH (fun _=> ?_) (fun _=> ?_) | refine L9 (fun _=> ?_) (fun _=> ?_) | simp only [AJ,AQ,AL,AR,AO,AE,AG,AU,AN,AS,AV,AP,AM,AT,BN,BS,BV,BT,BW,BU,BO,A9,A6,A4,A7,A8,A5])
     rename_i g1 g2
     have hiv:(i:Int)=v9:=by rcases hf with hf | ⟨_,hf⟩;cases hf;exact hf
     have h8: ¬v9>8:=fun h8=>g1 (WR (by simp only;omega))
     have hx:=(inv (by omega)).go rfl
     have e0:v9.toNat-i=0:=by omega
     rw [e0,EL] at hx
     have:CP n l s=⟨⟨v1,A,v3,Cc,nm⟩,⟨v7,Vv,acc⟩,(C8 n l ⟨v1,A,v3,Cc,nm⟩ ⟨v7,Vv,acc⟩).2.1,(C8 n l ⟨v1,A,v3,Cc,nm⟩ ⟨v7,Vv,acc⟩).2.2,true⟩:=by
      rw [CP,hX,hx]
      simp only
      rw [if_pos ⟨g1,Decidable.not_not.1 g2⟩]
     rw [this] at h;exact h
  refine A1 (BP (BP (BP (BP (LJ (fun hlt=> ?_) fun hge=> ?_)))))
  ·refine B6 (EY hlt rfl ?_)
   cases b with
   | true=>exact CD (fin (.inl rfl))
   | false=>
     refine CQ ?_
     refine NJ (X:=X) (b:=false) (g:=fun v r'=>if v9>8 then none else EL (fun fr=>some (⟨v1,A,v3,Cc,nm⟩,⟨v7,Vv,fr⟩)) (v9.toNat-(i+1)) (acc++[w64 (la+v)]) (w64 (la+v)) r') (by omega) ?_ fun v r' b' i' _ z' zz=> ?_
     ·by_cases h8:v9>8
      ·refine ⟨fun _=> ?_,fun hh=>by cases hh⟩
       rw [big h8]
       cases rdI r with
       | none=>rfl
       | some p=>simp [h8]
      ·have hi:=inv (by omega)
       obtain ⟨m,hm⟩: ∃m,v9.toNat-i=m+1:=⟨v9.toNat-i-1,by omega⟩
       have hm2:v9.toNat-(i+1)=m:=by omega
       rw [hm,EL] at hi
       rw [hm2]
       simpa [h8] using hi
     ·have hz:=sz rfl
      refine GS (GW rfl (by omega) (BD (by omega) ?_))
      have:=hR (i+1,w64 (la+v),acc++[w64 (la+v)],r',b') ⟨fun h8=>by rw [if_neg (by omega)] at i';exact i',big,by simp only;omega,by simp [len],fun hb=>by simp only at hb ⊢;have:=zz hb;omega,by simp only;omega,by simp only;omega⟩ (by simp only;omega)
      simp only at this
      rw [←HL] at this
      exact this
  ·exact FV hge rfl (CD (fin (by
    cases b with
    | true=>exact .inl rfl
    | false=>exact .inr ⟨rfl,by omega⟩)))
 ·refine BI (AH (fun h0=> ?_) fun h0=> ?_)
  ·refine qW (X:=X) (g:=fun v r=>E6 ⟨v1,A,v3,Cc,v⟩ r) (by omega) (by rw [E5,if_pos h0] at i5;exact i5) fun v6 r6 b6 i6 _ z6=> ?_
   exact hj _ _ ⟨rfl,v6,r6,b6,rfl,i6,by omega⟩
  ·refine G7 (AH (fun h1=> ?_) fun h1=> ?_)
   ·refine DW ⟨by omega,by omega⟩ (TH (by omega) (by omega) (ldS (by omega) (hj _ _ ⟨rfl,_,r5,b5,rfl, ?_,by omega⟩)))
    rw [E5,if_neg h0,if_pos h1] at i5;exact i5
   ·rw [E5,if_neg h0,if_neg h1] at i5
    exact hj _ _ ⟨rfl,_,r5,true,rfl,⟨fun hh=>(by cases hh),fun _=>i5.off⟩,by omega⟩
end Go.Proofs.Ytnhicpkhkaihoaa.P
