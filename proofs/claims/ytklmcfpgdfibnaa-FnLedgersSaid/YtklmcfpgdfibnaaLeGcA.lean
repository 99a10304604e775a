/- A part of the proof. -/
import Derived.Test.YtklmcfpgdfibnaaLeRecD
import Derived.Test.YtklmcfpgdfibnaaLeRowB
namespace Go.Proofs.Ytklmcfpgdfibnaa.P
open Go Go.Proofs.Ytklmcfpgdfibnaa Go.Proofs.Ytklmcfpgdfibnaa.Eng
set_option linter.unusedVariables false
set_option maxHeartbeats 4000000
set_option linter.unusedVariables false
set_option linter.unusedSimpArgs false
attribute [local irreducible] prP gP gE gF AJ ixW ldc ldg ldl stc stg scW mkW apW A6 cl2 BF CM CB
variable {w0:World}
theorem dU {L:List Int} {K:J2} (h:K [.bool (decide ((L.length:Int)>1048576))] []):cl2 ⟨Try.prog,w0⟩ 17 JA.sg [] [tY L] K:=by
 refine JA.cl2 ?_
 unfold JA.txt
 rw [dX]
 exact KJ h
end Go.Proofs.Ytklmcfpgdfibnaa.P
namespace Go.Proofs.Ytklmcfpgdfibnaa.P
open Go Go.Proofs.Ytklmcfpgdfibnaa Go.Proofs.Ytklmcfpgdfibnaa.Eng
set_option linter.unusedVariables false
set_option maxHeartbeats 4000000
set_option linter.unusedVariables false
set_option linter.unusedSimpArgs false
attribute [local irreducible] prP gP gE gF AJ ixW ldc ldg ldl stc stg scW mkW apW A6 cl2 BF CM CB
variable {w0:World}
end Go.Proofs.Ytklmcfpgdfibnaa.P
namespace Go.Proofs.Ytklmcfpgdfibnaa.P
open Go Go.Proofs.Ytklmcfpgdfibnaa Go.Proofs.Ytklmcfpgdfibnaa.Eng
set_option linter.unusedVariables false
set_option maxHeartbeats 4000000
set_option linter.unusedVariables false
set_option linter.unusedSimpArgs false
attribute [local irreducible] prP gP gE gF AJ ixW ldc ldg ldl stc stg scW mkW apW A6 cl2 BF CM CB
variable {w0:World}
theorem TX {L:List Int} {K:J2} (hb:SU L) (h: ∀l:List Op5,l.length≤70→(∀o∈l,OpF o)→K [] [tR tP l]):cl2 ⟨Try.prog,w0⟩ 43 DZ.sg [] [tY L] K:=by
 refine DZ.cl2 ?_
 unfold DZ.txt
 refine Y4 hb fun z=> ?_
 exact ZI (m:=70) hb (Nat.zero_le _) (by omega) fun l i1 z1 hl ho h1=>h l hl fun o hx=>(ho o hx).f
attribute [local irreducible] DV
end Go.Proofs.Ytklmcfpgdfibnaa.P
namespace Go.Proofs.Ytklmcfpgdfibnaa.P
open Go Go.Proofs.Ytklmcfpgdfibnaa Go.Proofs.Ytklmcfpgdfibnaa.Eng
set_option linter.unusedVariables false
structure BJ where
 s:ByteArray
 al:Int
 re:Int
 rl:Int
 ro:Int
 un:Int
 fr:Int
def DR (r:BJ):List T:=[.c (.string r.s), .c (I r.al), .c (I r.re), .c (I r.rl), .c (I r.ro), .c (I r.un), .c (I r.fr)]
instance Ca:Rw DR 7:=⟨by omega,fun _=>rfl⟩
theorem GY (l:List BJ):cnt 7 (tR DR l)=l.length:=P4 l
abbrev Own:=Int×ByteArray
def tOw (o:Own):List T:=[.c (I o.1), .c (.string o.2)]
instance Cc:Rw tOw 2:=⟨by omega,fun _=>rfl⟩
theorem iL (l:List Own):cnt 2 (tR tOw l)=l.length:=P4 l
def rw0 (s:ByteArray):BJ:=⟨s,0,0,0,0,0,0⟩
def rg (R:List BJ) (k:Nat):BJ:=R.getD k (rw0 ⟨#[]⟩)
theorem I6 {R:List BJ} {k:Nat} (h:k<R.length):R[k]=rg R k:=by unfold rg;rw [List.getD_eq_getElem?_getD,List.getElem?_eq_getElem h];rfl
theorem QL {R:List BJ} {k:Nat} (h:k<R.length):rg R k∈R:=by rw [←I6 h];exact List.getElem_mem h
def wg (W:List Own) (k:Nat):Own:=W.getD k (0,⟨#[]⟩)
theorem vB {W:List Own} {k:Nat} (h:k<W.length):W[k]=wg W k:=by unfold wg;rw [List.getD_eq_getElem?_getD,List.getElem?_eq_getElem h];rfl
def B8 (R:List BJ) (s:ByteArray):Nat:=R.findIdx fun r=>decide (r.s=s)
theorem QG {R:List BJ} {s:ByteArray} {i:Nat} (hi:i<R.length) (h:(rg R i).s=s) (hb: ∀j,j<i→(rg R j).s≠s):B8 R s=i:=by
 unfold B8
 refine (List.findIdx_eq hi).2 ⟨by rw [I6 hi];exact decide_eq_true h,fun j hj=> ?_⟩
 rw [I6 (by omega)]
 exact decide_eq_false (hb j hj)
theorem V9 {R:List BJ} {s:ByteArray} (h: ∀j,j<R.length→(rg R j).s≠s):B8 R s=R.length:=by
 unfold B8
 refine List.findIdx_eq_length.2 fun r hr=> ?_
 obtain ⟨j,hj,rfl⟩:=List.getElem_of_mem hr
 rw [I6 hj]
 exact decide_eq_false (h j hj)
theorem qU {R:List BJ} {s:ByteArray} (h:B8 R s<R.length):(rg R (B8 R s)).s=s∧ ∀j,j<B8 R s→(rg R j).s≠s:=by
 have:=(List.findIdx_eq (p:=fun r:BJ=>decide (r.s=s)) h).1 rfl
 refine ⟨?_,fun j hj=> ?_⟩
 ·have h1:=this.1
  rw [I6 h] at h1
  exact of_decide_eq_true h1
 ·have h1:=this.2 j hj
  rw [I6 (by unfold B8 at*;omega)] at h1
  exact of_decide_eq_false h1
theorem pT (R:List BJ) (s:ByteArray):B8 R s≤R.length:=List.findIdx_le_length
def W8 (W:List Own) (id:Int):Nat→Option ByteArray
 | 0=>none
 | n+1=>if (wg W n).1=id then some (wg W n).2 else W8 W id n
def QY (W:List Own) (id:Int):Option ByteArray:=W8 W id W.length
theorem bD {W V:List Own} {id:Int}: ∀{n:Nat},n≤W.length→W8 (W++V) id n=W8 W id n
 | 0,_=>rfl
 | n+1,h=>by
   have e:wg (W++V) n=wg W n:=by
    unfold wg;rw [List.getD_eq_getElem?_getD,List.getD_eq_getElem?_getD,List.getElem?_append_left (by omega)]
   simp only [W8,e]
   rw [bD (by omega)]
theorem O1 {W:List Own} {v id:Int} {s:ByteArray}:QY (W++[(v,s)]) id=if v=id then some s else QY W id:=by
 unfold QY
 rw [List.length_append,List.length_singleton]
 have e:wg (W++[(v,s)]) W.length=(v,s):=by unfold wg;simp
 simp only [W8,e]
 rw [bD (Nat.le_refl _)]
def ED (R:List BJ) (k:Nat) (f:BJ→BJ):List BJ:=R.set k (f (rg R k))
def bmp (R:List BJ) (s:ByteArray) (f:BJ→BJ):List BJ:=if B8 R s<R.length then ED R (B8 R s) f else R
def RP (R:List BJ) (W:List Own) (id:Int):Option Nat:=match QY W id with
 | some s=>if B8 R s<R.length then some (B8 R s) else none
 | none=>none
def G4 (R:List BJ) (W:List Own) (id:Int) (f:BJ→BJ):List BJ:=match RP R W id with
 | some k=>ED R k f
 | none=>R
theorem aL {R:List BJ} {W:List Own} {id:Int} {k:Nat} (h:RP R W id=some k):k<R.length:=by
 unfold RP at h
 split at h
 ·split at h
  ·rename_i hh;cases h;exact hh
  ·cases h
 ·cases h
def kF (k:Int) (r:BJ):BJ:=if k=2 then {r with re:=r.re+1} else if k=3 then {r with rl:=r.rl+1} else if k=5 then {r with ro:=r.ro+1} else if k=6 then {r with un:=r.un+1} else r
def fF (r:BJ):BJ:={r with fr:=r.fr+1}
def aF (r:BJ):BJ:={r with al:=r.al+1}
def frL (R:List BJ) (W:List Own) (l:List Int):List BJ:=l.foldl (fun R id=>G4 R W id fF) R
theorem cQ {R:List BJ} {W:List Own} {l:List Int} {v:Int}:frL R W (l++[v])=G4 (frL R W l) W v fF:=by simp [frL]
def C8 (R:List BJ) (s:ByteArray):List BJ:=if B8 R s<R.length then R else R++[rw0 s]
def U1 (p:List BJ×List Own) (s:ByteArray) (v:Int):List BJ×List Own:=(bmp (C8 p.1 s) s aF,p.2++[(v,s)])
def KH (p:List BJ×List Own) (o:Op5) (a:An):List BJ×List Own:=
 if o.kind=1 then U1 (frL (G4 p.1 p.2 o.a (kF o.kind)) p.2 a.freed,p.2) o.site a.val else (frL (G4 p.1 p.2 o.a (kF o.kind)) p.2 a.freed,p.2)
def FF (l:List Op5) (a:List An):Nat→List BJ×List Own
 | 0=>([],[])
 | n+1=>if (an a n).code=0 then KH (FF l a n) (po l n) (an a n) else FF l a n
def BdR (R:List BJ) (n:Nat):Prop:= ∀r∈R,(0≤r.al∧r.al≤n)∧(0≤r.re∧r.re≤n)∧(0≤r.rl∧r.rl≤n)∧(0≤r.ro∧r.ro≤n)∧(0≤r.un∧r.un≤n)∧(0≤r.fr∧r.fr≤n)
theorem BdR.mono {R:List BJ} {n m:Nat} (h:BdR R n) (hm:n≤m):BdR R m:=fun r hr=>by
 have:=h r hr;omega
def Inc (f:BJ→BJ):Prop:= ∀r:BJ,(f r).s=r.s∧((f r).al=r.al∨(f r).al=r.al+1)∧((f r).re=r.re∨(f r).re=r.re+1)∧((f r).rl=r.rl∨(f r).rl=r.rl+1)∧((f r).ro=r.ro∨(f r).ro=r.ro+1)∧((f r).un=r.un∨(f r).un=r.un+1)∧((f r).fr=r.fr∨(f r).fr=r.fr+1)
theorem UR (k:Int):Inc (kF k):=fun r=>by
 unfold kF
 repeat' split
 all_goals simp
theorem VO:Inc fF:=fun r=>by simp [fF]
theorem ZW:Inc aF:=fun r=>by simp [aF]
theorem DJ {R:List BJ} {k:Nat} {f:BJ→BJ}:(ED R k f).length=R.length:=by simp [ED]
theorem YZ {R:List BJ} {k n:Nat} {f:BJ→BJ} (h:BdR R n) (hk:k<R.length) (hf:Inc f):BdR (ED R k f) (n+1):=fun r hr=>by
 unfold ED at hr
 rcases List.mem_or_eq_of_mem_set hr with hr | rfl
 ·have:=h r hr;omega
 ·have h1:=h _ (QL hk)
  obtain ⟨_,h2,h3,h4,h5,h6,h7⟩:=hf (rg R k)
  omega
theorem RZ {R:List BJ} {W:List Own} {id:Int} {f:BJ→BJ}:(G4 R W id f).length=R.length:=by
 unfold G4;split
 ·exact DJ
 ·rfl
theorem UK {R:List BJ} {W:List Own} {id:Int} {n:Nat} {f:BJ→BJ} (h:BdR R n) (hf:Inc f):BdR (G4 R W id f) (n+1):=by
 unfold G4;split
 ·rename_i k hk;exact YZ h (aL hk) hf
 ·exact h.mono (by omega)
theorem T2 {R:List BJ} {W:List Own} {l:List Int}:(frL R W l).length=R.length:=by
 induction l generalizing R with
 | nil=>rfl
 | cons v l ih=>simp only [frL,List.foldl_cons] at*;rw [ih,RZ]
theorem gT {R:List BJ} {W:List Own} {l:List Int} {n:Nat} (h:BdR R n):BdR (frL R W l) (n+l.length):=by
 induction l generalizing R n with
 | nil=>exact h
 | cons v l ih=>
   simp only [frL,List.foldl_cons] at*
   have:=ih (UK (W:=W) (id:=v) h VO)
   rw [List.length_cons,show n+(l.length+1)=n+1+l.length by omega];exact this
theorem RD {R:List BJ} {s:ByteArray} {n:Nat} (h:BdR R n):BdR (C8 R s) n:=by
 unfold C8;split
 ·exact h
 ·intro r hr
  rcases List.mem_append.1 hr with hr | hr
  ·exact h r hr
  ·rw [List.mem_singleton.1 hr];simp [rw0]
theorem FG {R:List BJ} {s:ByteArray}:B8 (C8 R s) s<(C8 R s).length:=by
 unfold C8;split
 ·assumption
 ·rename_i h
  have e:B8 (R++[rw0 s]) s≤R.length:=by
   unfold B8
   rw [List.findIdx_append]
   split
   ·omega
   ·have:List.findIdx (fun r=>decide (r.s=s)) [rw0 s]=0:=by simp [List.findIdx_cons,rw0]
    omega
  simp only [List.length_append,List.length_singleton];omega
def bW (a:List An):Nat→Nat
 | 0=>0
 | n+1=>bW a n+2+(an a n).freed.length
theorem T3 {l:List Op5} {a:List An}: ∀n,BdR (FF l a n).1 (bW a n)∧(FF l a n).1.length≤n∧(FF l a n).2.length≤n
 | 0=>⟨fun r hr=>by simp [FF] at hr,by simp [FF],by simp [FF]⟩
 | n+1=>by
   obtain ⟨i1,i2,i3⟩:=T3 (l:=l) (a:=a) n
   have b1:=gT (W:=(FF l a n).2) (l:=(an a n).freed) (UK (W:=(FF l a n).2) (id:=(po l n).a) i1 (UR (po l n).kind))
   have l1:(frL (G4 (FF l a n).1 (FF l a n).2 (po l n).a (kF (po l n).kind)) (FF l a n).2 (an a n).freed).length=(FF l a n).1.length:=by rw [T2,RZ]
   simp only [FF,bW]
   split
   ·unfold KH
    split
    ·unfold U1 bmp
     rw [if_pos FG]
     refine ⟨(YZ (RD b1) FG ZW).mono (by omega), ?_,by simp;exact i3⟩
     rw [DJ]
     unfold C8
     simp only
     split
     ·omega
     ·simp only [List.length_append,List.length_singleton];omega
    ·exact ⟨b1.mono (by omega),by simp only;omega,by simp only;omega⟩
   ·exact ⟨i1.mono (by omega),by omega,by omega⟩
theorem pL {n:Nat} {K:Value→Prop} (h:K (iv n)):ofW (iv n) K:=⟨n,rfl,h⟩
theorem wN {n:Nat} {K:Value→Prop} (h:K (.bool false)):prP (bnM .eql (iv n)) K:=by
 refine BM (a:=(n:Int)) (b:= -1) ?_
 rw [decide_eq_false (by omega)];exact h
theorem tZ {K:Value→Prop} (h:K (.bool true)):prP (bnM .eql (I (-1))) K:=BM (a:= -1) (b:= -1) h
theorem m0 {n:Nat} {K:Value→Prop} (h:K (.bool true)):prP (bnM .neq (iv n)) K:=by
 refine C0 (a:=(n:Int)) (b:= -1) ?_
 rw [decide_eq_true (by omega)];exact h
theorem gX {K:Value→Prop} (h:K (.bool false)):prP (bnM .neq (I (-1))) K:=C0 (a:= -1) (b:= -1) h
theorem YV {R:List BJ} {k c:Nat} {x:Int} {f:BJ→BJ} {J:List T→Prop} (hk:k<R.length) (hc:c<7) (hv:(DR (rg R k))[c]? =some (.c (I x))) (hy:DR (f (rg R k))=(DR (rg R k)).set c (.c (I (x+1)))) (hx:0≤x∧x+1<2^63) (h:J (tR DR (ED R k f))):
  ofW (iv (k*7)) fun t21=>ldc (tR DR R) [] (AB t21+c) fun t23=>prP (bnI .add t23 (.int .i64 1)) fun t24=>ofW (iv (k*7)) fun t25=>stc (tR DR R) [] (AB t25+c) t24 J:=by
 rw [←I6 hk] at hv hy
 unfold ED at h
 rw [←I6 hk] at h
 refine pL ?_
 rw [AX]
 have e:k*7+c=AB (iv k)*7+c:=by rw [AX]
 rw [e]
 refine LB hk hc hv (EB ⟨by omega,by omega⟩ (pL ?_))
 rw [AX,e]
 exact SJ hk hc hv hy h
set_option maxHeartbeats 4000000
set_option linter.unusedVariables false
set_option linter.unusedSimpArgs false
attribute [local irreducible] prP gP gE gF AJ ixW ldc ldg ldl stc stg scW mkW apW A6 cl2 BF CM CB
variable {w0:World}
theorem NC {R:List BJ} {c1:List T} {s:ByteArray} {K:J2} (hl:(R.length:Int)<2^62) (h1:B8 R s<R.length→K [iv (B8 R s*7)] []) (h2: ¬B8 R s<R.length→K [I (-1)] []):cl2 ⟨Try.prog,w0⟩ 166 CE.sg [.string s] [tR DR R,c1] K:=by
 refine CE.cl2 ?_
 unfold CE.txt
 simp only [GY]
 refine BK (fun i=>[.string s,iv R.length,iv i]) (fun _=>[]) R.length (fun i=> ∀j,j<i→(rg R j).s≠s) rfl rfl (fun j hj=>by omega) (fun F i hi hP hR=> ?_)
 simp only [AN,AV,AK,AM,AU,AH,AL,AW,AO,AR,AS,AQ,AT,AP,BQ,BU,BY,BX,BZ,BW,BT,A7,BA,BB,A9,BC,A8]
 refine A4 (AY (fun hlt=> ?_) fun hge=> ?_)
 ·have hlt:i<R.length:=by omega
  refine AG hlt (JT hlt (v:= .string (rg R i).s) (by rw [I6 hlt];rfl) (RK (AY (fun he=> ?_) fun he=> ?_)))
  ·have e:=QG hlt he hP
   rw [e] at h1
   exact AG hlt (by rw [AX];exact h1 hlt)
  ·refine BD (by omega) (hR hlt fun j hj=> ?_)
   by_cases hji:j=i
   ·rw [hji];exact he
   ·exact hP j (by omega)
 ·have:i=R.length:=by omega
  subst this
  exact h2 (by rw [V9 hP];omega)
theorem VH {R:List BJ} {W:List Own} {id:Int} {K:J2} (hl:(R.length:Int)<2^62) (hw:(W.length:Int)<2^62) (h1: ∀k,RP R W id=some k→K [iv (k*7)] []) (h2:RP R W id=none→K [I (-1)] []):cl2 ⟨Try.prog,w0⟩ 149 C3.sg [I id] [tR DR R,tR tOw W] K:=by
 refine C3.cl2 ?_
 unfold C3.txt
 simp only [iL]
 refine F8 (a:=(W.length:Int)) ⟨by omega,by omega⟩ ?_
 refine G7 (α:=Nat) (fun j=>[I id,I ((j:Int)-1)]) (fun _=>[]) (fun j=>j) (fun j=>j≤W.length∧W8 W id W.length=W8 W id j) W.length rfl rfl ⟨Nat.le_refl _,rfl⟩ (fun F j hj hR=> ?_)
 obtain ⟨hj,he⟩:=hj
 simp only [AN,AV,AK,AM,AU,AH,AL,AW,AO,AR,AS,AQ,AT,AP,BQ,BU,BY,BX,BZ,BW,BT,A7,BA,BB,A9,BC,A8]
 refine O7 (AY (fun hge=> ?_) fun hlt=> ?_)
 ·obtain ⟨i,rfl⟩: ∃i,j=i+1:=⟨j-1,by omega⟩
  have hi:i<W.length:=by omega
  have ei:((i+1:Nat):Int)-1=(i:Int):=by omega
  rw [ei]
  simp only [W8] at he
  refine AG hi (JT hi (v:=I (wg W i).1) (by rw [vB hi];rfl) (BM (AY (fun hid=> ?_) fun hid=> ?_)))
  ·rw [if_pos hid] at he
   refine AG hi (LB hi (by decide) (v:= .string (wg W i).2) (by rw [vB hi];rfl) (NC hl (fun hf=> ?_) fun hf=> ?_))
   ·refine h1 _ ?_
    unfold RP QY;rw [he];simp only;rw [if_pos hf]
   ·refine h2 ?_
    unfold RP QY;rw [he];simp only;rw [if_neg hf]
  ·rw [if_neg hid] at he
   exact F8 ⟨by omega,by omega⟩ (hR i ⟨by omega,he⟩ (by omega))
 ·have:j=0:=by omega
  subst this
  refine h2 ?_
  unfold RP QY;rw [he];rfl
theorem cD {R:List BJ} {W:List Own} {s:ByteArray} {v:Int} {n:Nat} {K:J2} (hl:R.length<2^40) (hw:W.length<2^40) (hb:BdR R n) (hn:n<2^62) (h:K [] [tR DR (U1 (R,W) s v).1,tR tOw (U1 (R,W) s v).2]):cl2 ⟨Try.prog,w0⟩ 150 C5.sg [.string s,I v] [tR DR R,tR tOw W] K:=by
 refine C5.cl2 ?_
 unfold C5.txt
 simp only [iL,GY]
 have e1:tR tOw W++[T.c (I v),T.c (.string s)]=tR tOw (W++[(v,s)]):=O8 W (v,s)
 rw [e1]
 refine GN rfl (by simp [cnt];omega) (R8 (fun xs cs=>xs=[.string s]∧cs=[tR DR (C8 R s),tR tOw (W++[(v,s)])]) ?_ fun j hj=> ?_)
 ·rintro xs cs ⟨rfl,rfl⟩
  simp only [AN,AV,AK,AM,AU,AH,AL,AW,AO,AR,AS,AQ,AT,AP,BQ,BU,BY,BX,BZ,BW,BT,A7,BA,BB,A9,BC,A8]
  have al:(C8 R s).length≤R.length+1:=by
   unfold C8;split
   ·omega
   ·simp
  have ab:=RD (s:=s) hb
  have hf:=FG (R:=R) (s:=s)
  refine NC (by omega) (fun _=> ?_) fun hh=>absurd hf hh
  have hr:=ab _ (QL hf)
  refine YV (x:=(rg (C8 R s) (B8 (C8 R s) s)).al) (f:=aF) hf (by decide) rfl rfl (by omega) ?_
  simp only [U1,bmp] at h
  rw [if_pos hf] at h
  exact h
 ·have e2:tR DR R++[T.c (.string s),T.c (.int .i64 0),T.c (.int .i64 0),T.c (.int .i64 0),T.c (.int .i64 0),T.c (.int .i64 0),T.c (.int .i64 0)]=tR DR (R++[rw0 s]):=O8 R (rw0 s)
  rw [e2]
  refine NC (by omega) (fun hf=>wN (B7 (hj _ _ ⟨rfl, ?_⟩))) fun hf=>tZ (CU (GN rfl (by simp [cnt];omega) (hj _ _ ⟨rfl, ?_⟩)))
  ·unfold C8;rw [if_pos hf]
  ·unfold C8;rw [if_neg hf]
end Go.Proofs.Ytklmcfpgdfibnaa.P
namespace Go.Proofs.Ytklmcfpgdfibnaa.P
open Go Go.Proofs.Ytklmcfpgdfibnaa Go.Proofs.Ytklmcfpgdfibnaa.Eng
set_option linter.unusedVariables false
theorem XU {l:List Int} {i:Nat} (h:i<l.length):l.take (i+1)=l.take i++[gI l i]:=by
 rw [List.take_succ_eq_append_getElem h,EN h]
theorem yT {r:BJ}:kF 2 r={r with re:=r.re+1}:=rfl
theorem Ad {r:BJ}:kF 3 r={r with rl:=r.rl+1}:=rfl
theorem zR {r:BJ}:kF 5 r={r with ro:=r.ro+1}:=rfl
theorem yL {r:BJ}:kF 6 r={r with un:=r.un+1}:=rfl
theorem OY {R:List BJ} {k:Nat} {f:BJ→BJ} (h: ∀r,f r=r):ED R k f=R:=by
 unfold ED;rw [h]
 by_cases hk:k<R.length
 ·rw [←I6 hk,List.set_getElem_self]
 ·rw [List.set_eq_of_length_le (by omega)]
set_option maxHeartbeats 4000000
set_option linter.unusedVariables false
set_option linter.unusedSimpArgs false
attribute [local irreducible] prP gP gE gF AJ ixW ldc ldg ldl stc stg scW mkW apW A6 cl2 BF CM CB
variable {w0:World}
theorem cN {R:List BJ} {W:List Own} {o:Op5} {a:An} {n:Nat} {K:J2} (hl:R.length<2^39) (hw:W.length<2^39) (hb:BdR R n) (hn:n+2+a.freed.length<2^62) (h:K [] [tR DR (KH (R,W) o a).1,tR tOw (KH (R,W) o a).2]):cl2 ⟨Try.prog,w0⟩ 109 C6.sg [I o.kind,I o.a,I o.b,I o.c, .string o.site,I a.code,I a.val] [tR DR R,tR tOw W,tI a.freed] K:=by
 refine C6.cl2 ?_
 unfold C6.txt
 obtain ⟨R1,e1⟩: ∃R1,G4 R W o.a (kF o.kind)=R1:=⟨_,rfl⟩
 have hb1:BdR R1 (n+1):=by rw [←e1];exact UK hb (UR _)
 have hl1:R1.length=R.length:=by rw [←e1];exact RZ
 refine R8 (fun xs cs=>xs=[I o.kind,I o.a,I o.b,I o.c, .string o.site,I a.code,I a.val]∧cs=[tR DR R1,tR tOw W]) ?_ fun j hj=> ?_
 ·rintro xs cs ⟨rfl,rfl⟩
  simp only [AN,AV,AK,AM,AU,AH,AL,AW,AO,AR,AS,AQ,AT,AP,BQ,BU,BY,BX,BZ,BW,BT,A7,BA,BB,A9,BC,A8]
  try simp only [AH]
  refine BK (fun i=>[iv a.freed.length,iv i,I o.kind,I o.a,I o.b,I o.c, .string o.site,I a.code,I a.val]) (fun i=>[tR DR (frL R1 W (a.freed.take i)),tR tOw W]) a.freed.length (fun _=>True) rfl rfl trivial (fun F i hi _ hR=> ?_)
  have fl:(frL R1 W (a.freed.take i)).length=R.length:=by rw [T2,hl1]
  have fb:=gT (W:=W) (l:=a.freed.take i) hb1
  rw [List.length_take,Nat.min_eq_left hi] at fb
  simp only [AN,AV,AK,AM,AU,AH,AL,AW,AO,AR,AS,AQ,AT,AP,BQ,BU,BY,BX,BZ,BW,BT,A7,BA,BB,A9,BC,A8]
  refine A4 (AY (fun hlt=> ?_) fun hge=> ?_)
  ·have hlt:i<a.freed.length:=by omega
   have hR:=hR hlt trivial
   rw [XU hlt,cQ] at hR
   generalize frL R1 W (a.freed.take i)=R2 at fl fb hR ⊢
   refine BV (AG hlt (ldI hlt (VH (by omega) (by omega) (fun k hk=> ?_) fun hk=> ?_)))
   ·have kl:=aL hk
    have hr:=fb _ (QL kl)
    refine m0 (CU ?_)
    simp only [BQ]
    refine YV (x:=(rg R2 k).fr) (f:=fF) kl (by decide) rfl rfl (by omega) (BD (by omega) ?_)
    unfold G4 at hR;rw [hk] at hR
    exact hR
   ·refine gX (B7 (BD (by omega) ?_))
    unfold G4 at hR;rw [hk] at hR
    exact hR
  ·have:i=a.freed.length:=by omega
   subst this
   rw [List.take_length] at fl fb ⊢
   unfold KH at h
   simp only [e1] at h
   refine BM (AY (fun hk=> ?_) fun hk=> ?_)
   ·rw [if_pos hk] at h
    exact cD (by omega) (by omega) fb (by omega) h
   ·rw [if_neg hk] at h
    exact h
 ·refine VH (by omega) (by omega) (fun k hk=> ?_) fun hk=> ?_
  ·have kl:=aL hk
   have hr:=hb _ (QL kl)
   unfold G4 at e1;rw [hk] at e1
   simp only at e1
   refine m0 (CU (BM (AY (fun h2=> ?_) fun h2=>BM (AY (fun h3=> ?_) fun h3=>BM (AY (fun h5=> ?_) fun h5=>BM (AY (fun h6=> ?_) fun h6=> ?_))))))
   ·exact YV (x:=(rg R k).re) (f:=kF o.kind) kl (by decide) rfl (by rw [h2];rfl) (by omega) (hj _ _ ⟨rfl,by rw [e1]⟩)
   ·exact YV (x:=(rg R k).rl) (f:=kF o.kind) kl (by decide) rfl (by rw [h3];rfl) (by omega) (hj _ _ ⟨rfl,by rw [e1]⟩)
   ·exact YV (x:=(rg R k).ro) (f:=kF o.kind) kl (by decide) rfl (by rw [h5];rfl) (by omega) (hj _ _ ⟨rfl,by rw [e1]⟩)
   ·exact YV (x:=(rg R k).un) (f:=kF o.kind) kl (by decide) rfl (by rw [h6];rfl) (by omega) (hj _ _ ⟨rfl,by rw [e1]⟩)
   ·refine hj _ _ ⟨rfl, ?_⟩
    rw [←e1,OY]
    intro r
    unfold kF
    rw [if_neg h2,if_neg h3,if_neg h5,if_neg h6]
  ·unfold G4 at e1;rw [hk] at e1
   exact gX (B7 (hj _ _ ⟨rfl,by rw [←e1]⟩))
theorem XI {l:List Op5} {a:List An} {K:J2} (hl:l.length<2^39) (ha:a.length<2^39) (hb: ∀n,n≤a.length→bW a n<2^61) (h:K [] [tR DR (FF l a (min l.length a.length)).1]):cl2 ⟨Try.prog,w0⟩ 45 FM.sg [] [tR tP l,tR tA a] K:=by
 refine FM.cl2 ?_
 unfold FM.txt
 try simp only [AK,AM]
 refine BK (fun i=>[iv i]) (fun i=>[tR DR (FF l a i).1,tR tOw (FF l a i).2]) (min l.length a.length) (fun _=>True) rfl rfl trivial (fun F i hi _ hR=> ?_)
 obtain ⟨b1,b2,b3⟩:=T3 (l:=l) (a:=a) i
 simp only [AN,AV,AK,AM,AU,AH,AL,AW,AO,AR,AS,AQ,AT,AP,BQ,BU,BY,BX,BZ,BW,BT,A7,BA,BB,A9,BC,A8]
 refine A4 ?_
 by_cases hil:(i:Int)<(l.length:Int)
 ·rw [decide_eq_true hil]
  refine BH (BH (BH (GO (A4 (NX rfl (AY (fun hia=> ?_) fun hia=> ?_))))))
  ·have hil:i<l.length:=by omega
   have hia:i<a.length:=by omega
   have hR:=hR (by omega) trivial
   have hbi:=hb (i+1) (by omega)
   simp only [bW] at hbi
   simp only [FF] at hR
   refine BV (AG hia (Z7 hia (v:=I (an a i).code) rfl (BM (AY (fun hc=> ?_) fun hc=> ?_))))
   ·rw [if_pos hc] at hR
    refine AG hil (oZ hil (AG hia (wC hia ?_)))
    simp only [uK,uX,vC,uU,uR,yG,yK]
    rw [eH hia]
    exact cN (by omega) (by omega) b1 (by omega) (BD (by omega) hR)
   ·rw [if_neg hc] at hR
    exact BD (by omega) hR
  ·have:i=min l.length a.length:=by omega
   subst this
   exact h
 ·rw [decide_eq_false hil]
  have:i=min l.length a.length:=by omega
  subst this
  exact BH (BH (BH (GF (SO rfl (B7 h)))))
end Go.Proofs.Ytklmcfpgdfibnaa.P
namespace Go.Proofs.Ytklmcfpgdfibnaa.P
open Go Go.Proofs.Ytklmcfpgdfibnaa Go.Proofs.Ytklmcfpgdfibnaa.Eng
set_option linter.unusedVariables false
def nm (R:List BJ):List ByteArray:=R.map (·.s)
theorem WN (R:List BJ) (s:ByteArray):B8 R s=(nm R).findIdx fun x=>decide (x=s):=by
 unfold B8 nm
 induction R with
 | nil=>rfl
 | cons r R ih=>simp only [List.map_cons,List.findIdx_cons,ih]
theorem RJ {R:List BJ} {k:Nat} {f:BJ→BJ} (hf: ∀r,(f r).s=r.s):nm (ED R k f)=nm R:=by
 unfold nm ED
 rw [List.map_set,hf]
 by_cases hk:k<R.length
 ·rw [←I6 hk]
  have:(R[k]).s=(R.map (·.s))[k]'(by simpa using hk):=by simp
  rw [this,List.set_getElem_self]
 ·rw [List.set_eq_of_length_le (by simp;omega)]
theorem xO {R R':List BJ} (h:nm R=nm R'):R.length=R'.length:=by
 have:=congrArg List.length h
 simpa [nm] using this
theorem jI {R R':List BJ} (h:nm R=nm R') (s:ByteArray):B8 R s=B8 R' s:=by rw [WN,WN,h]
theorem O4 {R:List BJ} {k:Nat} {f:BJ→BJ} (hf:Inc f) (s:ByteArray):B8 (ED R k f) s=B8 R s:=jI (RJ fun r=>(hf r).1) s
theorem ZA {R:List BJ} {W:List Own} {id:Int} {f:BJ→BJ} (hf:Inc f):nm (G4 R W id f)=nm R:=by
 unfold G4;split
 ·exact RJ fun r=>(hf r).1
 ·rfl
theorem eL {R:List BJ} {W:List Own} {l:List Int}:nm (frL R W l)=nm R:=by
 induction l generalizing R with
 | nil=>rfl
 | cons v l ih=>simp only [frL,List.foldl_cons] at*;rw [ih,ZA VO]
theorem Q9 {R:List BJ} {k j:Nat} {f:BJ→BJ} (hk:k<R.length):rg (ED R k f) j=if j=k then f (rg R k) else rg R j:=by
 unfold rg ED
 rw [List.getD_eq_getElem?_getD,List.getElem?_set]
 by_cases h:k=j
 ·subst h;simp [hk,rg]
 ·rw [if_neg h,if_neg (Ne.symm h), ←List.getD_eq_getElem?_getD]
theorem lY {R:List BJ} {k m:Nat} {f g:BJ→BJ} (hk:k<R.length) (hm:m<R.length) (h: ∀r,g (f r)=f (g r)):ED (ED R m f) k g=ED (ED R k g) m f:=by
 have e1:=Q9 (f:=f) (j:=k) hm
 have e2:=Q9 (f:=g) (j:=m) hk
 by_cases hkm:k=m
 ·subst hkm
  unfold ED at*
  rw [if_pos rfl] at e1 e2
  rw [e1,e2,List.set_set,List.set_set,h]
 ·rw [if_neg hkm] at e1
  rw [if_neg (Ne.symm hkm)] at e2
  have a:ED (ED R m f) k g=(ED R m f).set k (g (rg (ED R m f) k)):=rfl
  have b:ED (ED R k g) m f=(ED R k g).set m (f (rg (ED R k g) m)):=rfl
  rw [a,b,e1,e2]
  unfold ED
  rw [List.set_comm _ _ (Ne.symm hkm)]
def Kn (R:List BJ) (W:List Own):Prop:= ∀id s,QY W id=some s→B8 R s<R.length
theorem Kn.nm {R R':List BJ} {W:List Own} (h:Kn R W) (e:nm R=nm R'):Kn R' W:=fun id s hs=>by
 rw [←jI e, ←xO e];exact h id s hs
theorem oE {R:List BJ} {x:BJ} {t:ByteArray} (h:B8 R t<R.length):B8 (R++[x]) t=B8 R t:=by
 unfold B8 at*
 rw [List.findIdx_append,if_pos h]
theorem X4 {R:List BJ} {s t:ByteArray} (h:B8 R t<R.length):B8 (C8 R s) t=B8 R t:=by
 unfold C8;split
 ·rfl
 ·exact oE h
theorem WU {R:List BJ} {s:ByteArray}:R.length≤(C8 R s).length:=by
 unfold C8;split
 ·omega
 ·simp
theorem mC {R:List BJ} {s:ByteArray} {k:Nat} {f:BJ→BJ} (hf:Inc f) (hk:k<R.length):C8 (ED R k f) s=ED (C8 R s) k f:=by
 unfold C8
 rw [O4 hf,DJ]
 split
 ·rfl
 ·have e:rg (R++[rw0 s]) k=rg R k:=by
   unfold rg;rw [List.getD_eq_getElem?_getD,List.getElem?_append_left hk, ←List.getD_eq_getElem?_getD]
  unfold ED
  rw [e,List.set_append_left _ _ hk]
theorem zU {R:List BJ} {W:List Own} {s:ByteArray} {id:Int} (h:Kn R W):G4 (bmp (C8 R s) s aF) W id fF=bmp (C8 (G4 R W id fF) s) s aF:=by
 have hf:=FG (R:=R) (s:=s)
 have e0:bmp (C8 R s) s aF=ED (C8 R s) (B8 (C8 R s) s) aF:=by unfold bmp;rw [if_pos hf]
 unfold G4 RP
 cases ho:QY W id with
 | none=>rfl
 | some t=>
   have hk:=h id t ho
   have al:=WU (R:=R) (s:=s)
   simp only
   rw [e0,O4 ZW,DJ,X4 hk,if_pos (by omega),if_pos hk]
   simp only
   rw [mC VO hk]
   have e1:bmp (ED (C8 R s) (B8 R t) fF) s aF=ED (ED (C8 R s) (B8 R t) fF) (B8 (C8 R s) s) aF:=by
    unfold bmp;rw [O4 VO,DJ,if_pos hf]
   rw [e1]
   exact lY (by omega) hf fun r=>rfl
theorem yP {W:List Own} {s:ByteArray} {l:List Int}: ∀{R:List BJ},Kn R W→frL (bmp (C8 R s) s aF) W l=bmp (C8 (frL R W l) s) s aF:=by
 induction l with
 | nil=>intro R _;rfl
 | cons v l ih=>
   intro R h
   have a:frL (bmp (C8 R s) s aF) W (v::l)=frL (G4 (bmp (C8 R s) s aF) W v fF) W l:=rfl
   have b:frL R W (v::l)=frL (G4 R W v fF) W l:=rfl
   rw [a,b,zU h,ih (h.nm (ZA VO).symm)]
theorem iV {R:List BJ} {W:List Own} {id:Int}:G4 R W id (kF 1)=R:=by
 unfold G4;split
 ·exact OY fun r=>rfl
 ·rfl
def W9 (l:List Op5) (a:List An) (id:Int):Nat→Option ByteArray
 | 0=>none
 | i+1=>if (po l i).kind=1∧(an a i).code=0∧(an a i).val=id then some (po l i).site else W9 l a id i
theorem VI {l:List Op5} {a:List An} {id:Int}: ∀n,QY (FF l a n).2 id=W9 l a id n
 | 0=>rfl
 | n+1=>by
   simp only [FF,W9]
   by_cases hc:(an a n).code=0
   ·rw [if_pos hc]
    unfold KH
    by_cases hk:(po l n).kind=1
    ·rw [if_pos hk]
     simp only [U1]
     rw [O1,VI n]
     by_cases hv:(an a n).val=id
     ·rw [if_pos hv,if_pos ⟨hk,hc,hv⟩]
     ·rw [if_neg hv,if_neg fun hh=>hv hh.2.2]
    ·rw [if_neg hk,if_neg fun hh=>hk hh.1]
     exact VI n
   ·rw [if_neg hc,if_neg fun hh=>hc hh.2.1]
    exact VI n
theorem sF {R:List BJ} {s t:ByteArray} (h:B8 R t<R.length):B8 (C8 R s) t<(C8 R s).length:=by
 rw [X4 h];have:=WU (R:=R) (s:=s);omega
theorem pC {l:List Op5} {a:List An}: ∀n,Kn (FF l a n).1 (FF l a n).2
 | 0=>fun id s hs=>by simp [FF,QY,W8] at hs
 | n+1=>by
   have ih:=pC (l:=l) (a:=a) n
   simp only [FF]
   split
   ·have h1:Kn (frL (G4 (FF l a n).1 (FF l a n).2 (po l n).a (kF (po l n).kind)) (FF l a n).2 (an a n).freed) (FF l a n).2:=ih.nm (by rw [eL,ZA (UR _)])
    unfold KH
    split
    ·simp only [U1]
     generalize frL (G4 (FF l a n).1 (FF l a n).2 (po l n).a (kF (po l n).kind)) (FF l a n).2 (an a n).freed=R2 at h1
     intro id s hs
     have hf:=FG (R:=R2) (s:=(po l n).site)
     unfold bmp
     rw [if_pos hf,O4 ZW,DJ]
     rw [O1] at hs
     split at hs
     ·cases hs;exact hf
     ·exact sF (h1 id s hs)
    ·exact h1
   ·exact ih
def nB (p:List BJ×List Own) (o:Op5) (a:An):List BJ:=frL (if o.kind=1 then bmp (C8 p.1 o.site) o.site aF else G4 p.1 p.2 o.a (kF o.kind)) p.2 a.freed
theorem pK {p:List BJ×List Own} {o:Op5} {a:An} (h:Kn p.1 p.2):nB p o a=(KH p o a).1:=by
 unfold nB KH
 split
 ·rename_i hk
  rw [yP h,hk,iV];rfl
 ·rfl
theorem YG {R:List BJ} {k c:Nat} {x:Int} {f:BJ→BJ} {J:List T→Prop} (hk:k<R.length) (hc:c<7) (hv:(DR (rg R k))[c]? =some (.c (I x))) (hy:DR (f (rg R k))=(DR (rg R k)).set c (.c (I (x+1)))) (hx:0≤x∧x+1<2^63) (h:J (tR DR (ED R k f))):
  ixW R.length (iv k) fun t=>ldc (tR DR R) [] (AB t*7+c) fun t2=>prP (bnI .add t2 (.int .i64 1)) fun t3=>ixW R.length (iv k) fun t4=>stc (tR DR R) [] (AB t4*7+c) t3 J:=by
 rw [←I6 hk] at hv hy
 unfold ED at h
 rw [←I6 hk] at h
 exact AG hk (LB hk hc hv (EB ⟨by omega,by omega⟩ (AG hk (SJ hk hc hv hy h))))
theorem pJ {a b c d e f g:T}:cnt 7 [a,b,c,d,e,f,g]=1:=by simp [cnt]
def osS (x:Option ByteArray):ByteArray:=x.getD ⟨#[]⟩
set_option maxHeartbeats 4000000
set_option linter.unusedVariables false
set_option linter.unusedSimpArgs false
attribute [local irreducible] prP gP gE gF AJ ixW ldc ldg ldl stc stg scW mkW apW A6 cl2 BF CM CB
variable {w0:World}
theorem TH {l:List Op5} {a:List An} {i:Nat} {id:Int} {K:J2} (hil:i≤l.length) (hia:i≤a.length) (hl:(l.length:Int)<2^60) (h:K [.string (osS (W9 l a id i)), .bool (W9 l a id i).isSome] []):cl2 ⟨Try.prog,w0⟩ 110 D9.sg [iv i,I id] [tR tP l,tR tA a] K:=by
 refine D9.cl2 ?_
 unfold D9.txt
 try simp only [AK,AM]
 refine BK (fun j=>[iv i,I id, .string (osS (W9 l a id j)), .bool (W9 l a id j).isSome,iv j]) (fun _=>[]) i (fun _=>True) rfl rfl trivial (fun F j hj _ hR=> ?_)
 simp only [AN,AV,AK,AM,AU,AH,AL,AW,AO,AR,AS,AQ,AT,AP,BQ,BU,BY,BX,BZ,BW,BT,A7,BA,BB,A9,BC,A8]
 refine A4 ?_
 by_cases hlt:(j:Int)<(i:Int)
 ·have hjl:j<l.length:=by omega
  have hja:j<a.length:=by omega
  have hR:=hR (by omega) trivial
  rw [decide_eq_true hlt]
  refine BH (BH (BH (GO (A4 ?_))))
  rw [decide_eq_true (show (j:Int)<(a.length:Int) by omega)]
  refine NX rfl (CU (BV (AG hjl (ZY hjl (v:=I (po l j).kind) rfl (BM ?_)))))
  simp only [W9] at hR
  by_cases hk:(po l j).kind=1
  ·rw [decide_eq_true hk]
   refine BH (BH (GO (AG hja (BH (GO (Z7 hja (v:=I (an a j).code) rfl (GO (BM (NX rfl ?_)))))))))
   by_cases hc:(an a j).code=0
   ·rw [decide_eq_true hc]
    refine BH (BH (GO (AG hja (BH (GO (vM hja (c:=1) (v:=I (an a j).val) (by decide) rfl (BH (GO (BM (NX rfl (AY (fun hv=> ?_) fun hv=> ?_)))))))))))
    ·rw [if_pos ⟨hk,hc,hv⟩] at hR
     exact AG hjl (dY hjl (c:=4) (v:= .string (po l j).site) (by decide) rfl (BD (by omega) hR))
    ·rw [if_neg fun hh=>hv hh.2.2] at hR
     exact BD (by omega) hR
   ·rw [decide_eq_false hc]
    rw [if_neg fun hh=>hc hh.2.1] at hR
    exact BH (BH (GF (BH (GF (BH (GF (SO rfl (B7 (BD (by omega) hR)))))))))
  ·rw [decide_eq_false hk]
   rw [if_neg fun hh=>hk hh.1] at hR
   exact BH (BH (GF (BH (GF (GF (SO rfl (BH (BH (GF (BH (GF (BH (GF (SO rfl (B7 (BD (by omega) hR))))))))))))))))
 ·have:j=i:=by omega
  subst this
  rw [decide_eq_false hlt]
  exact BH (BH (BH (GF (SO rfl (B7 h)))))
theorem LL {R:List BJ} {s:ByteArray} {K:J2} (hl:(R.length:Int)<2^62) (h:K [iv (B8 R s)] []):cl2 ⟨Try.prog,w0⟩ 111 DK.sg [.string s] [tR DR R] K:=by
 refine DK.cl2 ?_
 unfold DK.txt
 try simp only [GY]
 refine BK (fun i=>[.string s,iv i]) (fun _=>[]) R.length (fun i=> ∀j,j<i→(rg R j).s≠s) rfl rfl (fun j hj=>by omega) (fun F i hi hP hR=> ?_)
 simp only [AN,AV,AK,AM,AU,AH,AL,AW,AO,AR,AS,AQ,AT,AP,BQ,BU,BY,BX,BZ,BW,BT,A7,BA,BB,A9,BC,A8]
 refine A4 (AY (fun hlt=> ?_) fun hge=> ?_)
 ·have hlt:i<R.length:=by omega
  refine AG hlt (JT hlt (v:= .string (rg R i).s) (by rw [I6 hlt];rfl) (RK (AY (fun he=> ?_) fun he=> ?_)))
  ·rw [QG hlt he hP] at h
   exact h
  ·refine BD (by omega) (hR hlt fun j hj=> ?_)
   by_cases hji:j=i
   ·rw [hji];exact he
   ·exact hP j (by omega)
 ·have:i=R.length:=by omega
  subst this
  rw [V9 hP] at h
  exact h
theorem XG {l:List Op5} {a:List An} {K:J2} (hl:l.length<2^39) (ha:a.length<2^39) (hb: ∀n,n≤a.length→bW a n<2^61) (h:K [] [tR DR (FF l a (min l.length a.length)).1]):cl2 ⟨Try.prog,w0⟩ 50 FN.sg [] [tR tP l,tR tA a] K:=by
 refine FN.cl2 ?_
 unfold FN.txt
 try simp only [AK,AM,GY]
 refine BK (fun i=>[iv i]) (fun i=>[tR DR (FF l a i).1]) (min l.length a.length) (fun _=>True) rfl rfl trivial (fun F i hi _ hR=> ?_)
 obtain ⟨b1,b2,b3⟩:=T3 (l:=l) (a:=a) i
 have hkn:=pC (l:=l) (a:=a) i
 simp only [AN,AV,AK,AM,AU,AH,AL,AW,AO,AR,AS,AQ,AT,AP,BQ,BU,BY,BX,BZ,BW,BT,A7,BA,BB,A9,BC,A8]
 refine A4 ?_
 by_cases hil:(i:Int)<(l.length:Int)
 ·rw [decide_eq_true hil]
  refine BH (BH (BH (GO (A4 (NX rfl (AY (fun hia=> ?_) fun hia=> ?_))))))
  ·have hil:i<l.length:=by omega
   have hia:i<a.length:=by omega
   have hR:=hR (by omega) trivial
   have hbi:=hb (i+1) (by omega)
   simp only [bW] at hbi
   simp only [FF] at hR
   refine R8 (fun xs cs=>xs=[iv i]∧cs=[tR DR (if (an a i).code=0 then KH (FF l a i) (po l i) (an a i) else FF l a i).1]) ?_ fun jn hjn=> ?_
   ·rintro xs cs ⟨rfl,rfl⟩
    exact BD (by omega) hR
   clear hR
   refine AG hia (Z7 hia (v:=I (an a i).code) rfl (C0 (AY (fun hc=> ?_) fun hc=> ?_)))
   ·rw [if_neg hc] at hjn
    exact hjn _ _ ⟨rfl,rfl⟩
   have hc:(an a i).code=0:=Classical.byContradiction hc
   rw [if_pos hc, ←pK hkn] at hjn
   refine AG hil (dY hil (c:=1) (v:=I (po l i).a) (by decide) rfl (TH (by omega) (by omega) (by omega) ?_))
   have how:=VI (l:=l) (a:=a) (id:=(po l i).a) i
   have hos:=fun id=>VI (l:=l) (a:=a) (id:=id) i
   generalize hp:FF l a i=p at b1 b2 b3 hkn hjn how hos ⊢
   obtain ⟨R,W⟩:=p
   simp only at b1 b2 b3 hkn hjn how hos ⊢
   obtain ⟨R1,e1⟩: ∃R1,(if (po l i).kind=1 then bmp (C8 R (po l i).site) (po l i).site aF else G4 R W (po l i).a (kF (po l i).kind))=R1:=⟨_,rfl⟩
   unfold nB at hjn
   simp only [e1] at hjn
   have hb1:BdR R1 (bW a i+1)∧R1.length≤i+1:=by
    rw [←e1]
    split
    ·unfold bmp
     rw [if_pos FG]
     refine ⟨YZ (RD b1) FG ZW, ?_⟩
     rw [DJ];unfold C8;split
     ·omega
     ·simp;omega
    ·exact ⟨UK b1 (UR _),by rw [RZ];omega⟩
   refine R8 (fun xs cs=> ∃(s:ByteArray) (is:Bool) (R0:List BJ),xs=[iv i, .string s, .bool is]∧cs=[tR DR R0]∧R0.length≤i+1∧BdR R0 (bW a i)∧R1=if is=true∧B8 R0 s<R0.length then ED R0 (B8 R0 s) (if (po l i).kind=1 then aF else kF (po l i).kind) else R0) ?_ fun j22 hj22=> ?_
   rotate_left
   ·refine AG hil (ZY hil (v:=I (po l i).kind) rfl (BM (AY (fun hk=> ?_) fun hk=> ?_)))
    ·rw [if_pos hk] at e1
     have hcr:=GY R
     have al:(C8 R (po l i).site).length≤i+1:=by
      unfold C8;split
      ·omega
      ·simp;omega
     have eR1:R1=if (true=true∧B8 (C8 R (po l i).site) (po l i).site<(C8 R (po l i).site).length) then ED (C8 R (po l i).site) (B8 (C8 R (po l i).site) (po l i).site) (if (po l i).kind=1 then aF else kF (po l i).kind) else C8 R (po l i).site:=by
      rw [if_pos ⟨rfl,FG⟩,if_pos hk, ←e1]
      unfold bmp;rw [if_pos FG]
     refine AG hil (dY hil (c:=4) (v:= .string (po l i).site) (by decide) rfl (LL (by omega) (BM (AY (fun hf=> ?_) fun hf=> ?_))))
     ·have e2:tR DR R++[T.c (.string (po l i).site),T.c (.int .i64 0),T.c (.int .i64 0),T.c (.int .i64 0),T.c (.int .i64 0),T.c (.int .i64 0),T.c (.int .i64 0)]=tR DR (R++[rw0 (po l i).site]):=O8 R (rw0 (po l i).site)
      have:C8 R (po l i).site=R++[rw0 (po l i).site]:=by unfold C8;rw [if_neg (by omega)]
      exact GN rfl (by rw [hcr,pJ];omega) (hj22 _ _ ⟨_,_,_,rfl,by rw [this, ←e2],al,RD b1,eR1⟩)
     ·have hle:=pT R (po l i).site
      have:C8 R (po l i).site=R:=by unfold C8;rw [if_pos (by omega)]
      exact hj22 _ _ ⟨_,_,_,rfl,by rw [this],al,RD b1,eR1⟩
    ·rw [if_neg hk] at e1
     refine hj22 _ _ ⟨_,_,R,rfl,rfl,by omega,b1, ?_⟩
     rw [←e1,if_neg hk]
     unfold G4 RP
     rw [how]
     cases W9 l a (po l i).a i with
     | none=>simp
     | some s=>
       simp only [Option.isSome_some,true_and,osS,Option.getD_some]
       by_cases hf:B8 R s<R.length
       ·rw [if_pos hf,if_pos hf]
       ·rw [if_neg hf,if_neg hf]
   rintro xs cs ⟨s,is,R0,rfl,rfl,hl0,hb0,hR1⟩
   simp only [AN,AV,AK,AM,AU,AH,AL,AW,AO,AR,AS,AQ,AT,AP,BQ,BU,BY,BX,BZ,BW,BT,A7,BA,BB,A9,BC,A8]
   try simp only [GY]
   refine LL (by omega) (R8 (fun xs cs=>xs=[iv i]∧cs=[tR DR R1]) ?_ fun j38 hj38=> ?_)
   ·rintro xs cs ⟨rfl,rfl⟩
    simp only [AN,AV,AK,AM,AU,AH,AL,AW,AO,AR,AS,AQ,AT,AP,BQ,BU,BY,BX,BZ,BW,BT,A7,BA,BB,A9,BC,A8]
    refine BK (fun j=>[iv i,iv j]) (fun j=>[tR DR (frL R1 W ((an a i).freed.take j))]) (an a i).freed.length (fun _=>True) rfl rfl trivial (fun G j hj _ hG=> ?_)
    have fl:(frL R1 W ((an a i).freed.take j)).length=R1.length:=T2
    have fb:=gT (W:=W) (l:=(an a i).freed.take j) hb1.1
    rw [List.length_take,Nat.min_eq_left hj] at fb
    simp only [AN,AV,AK,AM,AU,AH,AL,AW,AO,AR,AS,AQ,AT,AP,BQ,BU,BY,BX,BZ,BW,BT,A7,BA,BB,A9,BC,A8]
    refine AG hia (qJ hia ?_)
    rw [eH hia]
    try simp only [AH,GY]
    refine A4 (AY (fun hlt=> ?_) fun hge=> ?_)
    ·have hlt:j<(an a i).freed.length:=by omega
     have hG:=hG hlt trivial
     rw [XU hlt,cQ] at hG
     generalize frL R1 W ((an a i).freed.take j)=R2 at fl fb hG ⊢
     refine BV (AG hia (qJ hia ?_))
     rw [eH hia]
     try simp only [AH]
     refine AG hlt (wZ hia hlt (TH (by omega) (by omega) (by omega) ?_))
     have ho:=hos (gI (an a i).freed j)
     unfold G4 RP at hG
     rw [ho] at hG
     try simp only [BQ,BU]
     cases hs:W9 l a (gI (an a i).freed j) i with
     | none=>
       rw [hs] at hG
       refine LL (by omega) ?_
       exact BH (BH (BH (GF (SO rfl (B7 (BD (by omega) hG))))))
     | some t=>
       rw [hs] at hG
       simp only [osS,Option.getD_some,Option.isSome_some] at hG ⊢
       refine LL (by omega) ?_
       refine BH (BH (BH (GO (A4 (NX rfl (AY (fun hf=> ?_) fun hf=> ?_))))))
       ·have hf:B8 R2 t<R2.length:=by omega
        rw [if_pos hf] at hG
        have hr:=fb _ (QL hf)
        exact YG (x:=(rg R2 (B8 R2 t)).fr) (f:=fF) hf (by decide) rfl rfl (by omega) (BD (by omega) hG)
       ·have hf: ¬B8 R2 t<R2.length:=by omega
        rw [if_neg hf] at hG
        exact BD (by omega) hG
    ·have:j=(an a i).freed.length:=by omega
     subst this
     rw [List.take_length]
     exact hjn _ _ ⟨rfl,rfl⟩
   ·simp only [BQ]
    cases is with
    | false=>
      rw [if_neg (by simp)] at hR1
      exact BH (BH (BH (GF (SO rfl (B7 (hj38 _ _ ⟨rfl,by rw [hR1]⟩))))))
    | true=>
      refine BH (BH (BH (GO (A4 (NX rfl (AY (fun hf=> ?_) fun hf=> ?_))))))
      ·have hf:B8 R0 s<R0.length:=by omega
       rw [if_pos ⟨rfl,hf⟩] at hR1
       have hr:=hb0 _ (QL hf)
       refine AG hil (ZY hil (v:=I (po l i).kind) rfl (BM (AY (fun h1=> ?_) fun h1=>BM (AY (fun h2=> ?_) fun h2=>BM (AY (fun h3=> ?_) fun h3=>BM (AY (fun h5=> ?_) fun h5=>BM (AY (fun h6=> ?_) fun h6=> ?_)))))))
       ·rw [if_pos h1] at hR1
        exact YG (x:=(rg R0 (B8 R0 s)).al) (f:=aF) hf (by decide) rfl rfl (by omega) (hj38 _ _ ⟨rfl,by rw [hR1]⟩)
       ·rw [if_neg h1] at hR1
        exact YG (x:=(rg R0 (B8 R0 s)).re) (f:=kF (po l i).kind) hf (by decide) rfl (by rw [h2];rfl) (by omega) (hj38 _ _ ⟨rfl,by rw [hR1]⟩)
       ·rw [if_neg h1] at hR1
        exact YG (x:=(rg R0 (B8 R0 s)).rl) (f:=kF (po l i).kind) hf (by decide) rfl (by rw [h3];rfl) (by omega) (hj38 _ _ ⟨rfl,by rw [hR1]⟩)
       ·rw [if_neg h1] at hR1
        exact YG (x:=(rg R0 (B8 R0 s)).ro) (f:=kF (po l i).kind) hf (by decide) rfl (by rw [h5];rfl) (by omega) (hj38 _ _ ⟨rfl,by rw [hR1]⟩)
       ·rw [if_neg h1] at hR1
        exact YG (x:=(rg R0 (B8 R0 s)).un) (f:=kF (po l i).kind) hf (by decide) rfl (by rw [h6];rfl) (by omega) (hj38 _ _ ⟨rfl,by rw [hR1]⟩)
       ·rw [if_neg h1,OY] at hR1
        ·exact hj38 _ _ ⟨rfl,by rw [hR1]⟩
        ·intro r
         unfold kF
         rw [if_neg h2,if_neg h3,if_neg h5,if_neg h6]
      ·rw [if_neg fun hh=>hf (by omega)] at hR1
       exact hj38 _ _ ⟨rfl,by rw [hR1]⟩
  ·have:i=min l.length a.length:=by omega
   subst this
   exact h
 ·rw [decide_eq_false hil]
  have:i=min l.length a.length:=by omega
  subst this
  exact BH (BH (BH (GF (SO rfl (B7 h)))))
end Go.Proofs.Ytklmcfpgdfibnaa.P
namespace Go.Proofs.Ytklmcfpgdfibnaa.P
open Go Go.Proofs.Ytklmcfpgdfibnaa Go.Proofs.Ytklmcfpgdfibnaa.Eng
set_option linter.unusedVariables false
set_option maxHeartbeats 4000000
set_option linter.unusedVariables false
set_option linter.unusedSimpArgs false
attribute [local irreducible] prP gP gE gF AJ ixW ldc ldg ldl stc stg scW mkW apW A6 cl2 BF CM CB
variable {w0:World}
end Go.Proofs.Ytklmcfpgdfibnaa.P
