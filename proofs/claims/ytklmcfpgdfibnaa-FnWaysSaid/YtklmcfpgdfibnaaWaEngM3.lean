/- A part of the proof. -/
import Derived.Test.YtklmcfpgdfibnaaWaEngM2
import Derived.Test.YtklmcfpgdfibnaaWaEngM1
namespace Go.Proofs.Ytklmcfpgdfibnaa.Eng
open Go Go.RowKit
set_option linter.unusedVariables false
set_option linter.unusedSimpArgs false
inductive T where
 | c (v:Value)
 | l (e:Nat) (cs:List T)
  /-- a slice that belongs to another now -/
 | x
def tC:Value→Bool
 | .slice _ _ _=>true
 | _=>false
mutual
def TR (s:St) (o:Bool):T→Value→List Nat→Prop
 | .c v,u,F=>u=v∧plain v=true∧F=[]
 | .x,u,F=>tC u=true∧F=[]
 | .l e cs,u,F=>(u=nl∧cs=[]∧F=[])∨ ∃h b n ob F',u=sl h b n e∧cs.length=n*e∧s.get h=some ob∧(o=true→ob.own=true)∧b+cs.length≤ob.cells.length∧TRs s o cs ((ob.cells.drop b).take cs.length) F'∧F=h::F'
def TRs (s:St) (o:Bool):List T→List Value→List Nat→Prop
 | [],us,F=>us=[]∧F=[]
 | t::ts,us,F=> ∃u us' F1 F2,us=u::us'∧TR s o t u F1∧TRs s o ts us' F2∧F=F1++F2
end
def Win (s:St) (o:Bool) (cs:List T) (h b:Nat) (F:List Nat):Prop:=
 ∃ob F',s.get h=some ob∧(o=true→ob.own=true)∧b+cs.length≤ob.cells.length∧TRs s o cs ((ob.cells.drop b).take cs.length) F'∧F=h::F'
theorem GA {s:St} {o:Bool} {e:Nat} {cs:List T} {u:Value} {F:List Nat}:TR s o (.l e cs) u F↔(u=nl∧cs=[]∧F=[])∨ ∃h b n,u=sl h b n e∧cs.length=n*e∧Win s o cs h b F:=by
 simp only [TR,Win]
 constructor
 ·rintro (h | ⟨h,b,n,ob,F',h1,h2,h3,h4,h5,h6,h7⟩)
  ·exact .inl h
  ·exact .inr ⟨h,b,n,h1,h2,ob,F',h3,h4,h5,h6,h7⟩
 ·rintro (h | ⟨h,b,n,h1,h2,ob,F',h3,h4,h5,h6,h7⟩)
  ·exact .inl h
  ·exact .inr ⟨h,b,n,ob,F',h1,h2,h3,h4,h5,h6,h7⟩
theorem H3 {s:St} {o:Bool}: ∀{ts:List T} {us:List Value} {F:List Nat},TRs s o ts us F→us.length=ts.length
 | [],us,F,h=>by simp only [TRs] at h;rw [h.1];rfl
 | t::ts,us,F,h=>by
   simp only [TRs] at h
   obtain ⟨u,us',F1,F2,rfl,_,h2,_⟩:=h
   simp [H3 h2]
mutual
theorem aP {s s':St} {o:Bool}: ∀(t:T) (u:Value) (F:List Nat),(∀h∈F,s'.get h=s.get h)→TR s o t u F→TR s' o t u F
 | .c v,u,F,_,h=>by simp only [TR] at h ⊢;exact h
 | .x,u,F,_,h=>by simp only [TR] at h ⊢;exact h
 | .l e cs,u,F,hf,h=>by
   simp only [TR] at h ⊢
   rcases h with h | ⟨x,b,n,ob,F',h1,h2,h3,h4,h5,h6,rfl⟩
   ·exact .inl h
   ·exact .inr ⟨x,b,n,ob,F',h1,h2,by rw [hf x (by simp)];exact h3,h4,h5,HJ cs _ _ (fun y hy=>hf y (by simp [hy])) h6,rfl⟩
theorem HJ {s s':St} {o:Bool}: ∀(ts:List T) (us:List Value) (F:List Nat),(∀h∈F,s'.get h=s.get h)→TRs s o ts us F→TRs s' o ts us F
 | [],us,F,_,h=>by simp only [TRs] at h ⊢;exact h
 | t::ts,us,F,hf,h=>by
   simp only [TRs] at h ⊢
   obtain ⟨u,us',F1,F2,h1,h2,h3,rfl⟩:=h
   exact ⟨u,us',F1,F2,h1,aP t u F1 (fun y hy=>hf y (by simp [hy])) h2,HJ ts us' F2 (fun y hy=>hf y (by simp [hy])) h3,rfl⟩
end
mutual
theorem wE {s:St} {o:Bool}: ∀(t:T) (u:Value) (F:List Nat),TR s o t u F→TR s false t u F
 | .c v,u,F,h=>by simp only [TR] at h ⊢;exact h
 | .x,u,F,h=>by simp only [TR] at h ⊢;exact h
 | .l e cs,u,F,h=>by
   simp only [TR] at h ⊢
   rcases h with h | ⟨x,b,n,ob,F',h1,h2,h3,h4,h5,h6,rfl⟩
   ·exact .inl h
   ·exact .inr ⟨x,b,n,ob,F',h1,h2,h3,(fun h=>by cases h),h5,cF cs _ _ h6,rfl⟩
theorem cF {s:St} {o:Bool}: ∀(ts:List T) (us:List Value) (F:List Nat),TRs s o ts us F→TRs s false ts us F
 | [],us,F,h=>by simp only [TRs] at h ⊢;exact h
 | t::ts,us,F,h=>by
   simp only [TRs] at h ⊢
   obtain ⟨u,us',F1,F2,h1,h2,h3,h4⟩:=h
   exact ⟨u,us',F1,F2,h1,wE t u F1 h2,cF ts us' F2 h3,h4⟩
end
mutual
theorem wI {s:St} {o:Bool}: ∀(t:T) (u:Value) (F:List Nat),TR s o t u F→ ∀h∈F,h<s.n
 | .c v,u,F,h=>by simp only [TR] at h;rw [h.2.2];simp
 | .x,u,F,h=>by simp only [TR] at h;rw [h.2];simp
 | .l e cs,u,F,h=>by
   simp only [TR] at h
   rcases h with ⟨_,_,rfl⟩ | ⟨x,b,n,ob,F',h1,h2,h3,h4,h5,h6,rfl⟩
   ·simp
   ·intro y hy
    rcases List.mem_cons.1 hy with rfl | hy
    ·exact St.FK h3
    ·exact eL cs _ _ h6 y hy
theorem eL {s:St} {o:Bool}: ∀(ts:List T) (us:List Value) (F:List Nat),TRs s o ts us F→ ∀h∈F,h<s.n
 | [],us,F,h=>by simp only [TRs] at h;rw [h.2];simp
 | t::ts,us,F,h=>by
   simp only [TRs] at h
   obtain ⟨u,us',F1,F2,h1,h2,h3,rfl⟩:=h
   intro y hy
   rcases List.mem_append.1 hy with hy | hy
   ·exact wI t u F1 h2 y hy
   ·exact eL ts us' F2 h3 y hy
end
theorem KH {s:St} {o:Bool}: ∀{a b:List T} {us:List Value} {F:List Nat},TRs s o (a++b) us F↔ ∃us1 us2 F1 F2,us=us1++us2∧TRs s o a us1 F1∧TRs s o b us2 F2∧F=F1++F2
 | [],b,us,F=>by
   constructor
   ·intro h;exact ⟨[],us,[],F,rfl,⟨rfl,rfl⟩,h,rfl⟩
   ·rintro ⟨us1,us2,F1,F2,rfl,h1,h2,rfl⟩
    simp only [TRs] at h1
    obtain ⟨rfl,rfl⟩:=h1
    exact h2
 | t::a,b,us,F=>by
   constructor
   ·intro h
    simp only [List.cons_append,TRs] at h
    obtain ⟨u,us',F1,F2,rfl,h2,h3,rfl⟩:=h
    obtain ⟨us1,us2,G1,G2,rfl,k1,k2,rfl⟩:=KH.1 h3
    exact ⟨u::us1,us2,F1++G1,G2,rfl,by simp only [TRs];exact ⟨u,us1,F1,G1,rfl,h2,k1,rfl⟩,k2,by simp⟩
   ·rintro ⟨us1,us2,F1,F2,rfl,h1,h2,rfl⟩
    simp only [TRs] at h1
    obtain ⟨u,us',G1,G2,rfl,k1,k2,rfl⟩:=h1
    simp only [List.cons_append,TRs]
    exact ⟨u,us'++us2,G1,G2++F2,rfl,k1,KH.2 ⟨us',us2,G2,F2,rfl,k2,h2,rfl⟩,by simp⟩
theorem GP {s:St} {o:Bool} {t:T} {us:List Value} {F:List Nat}:TRs s o [t] us F↔ ∃u,us=[u]∧TR s o t u F:=by
 simp only [TRs]
 constructor
 ·rintro ⟨u,us',F1,F2,rfl,h,⟨rfl,rfl⟩,rfl⟩
  exact ⟨u,rfl,by simpa using h⟩
 ·rintro ⟨u,rfl,h⟩
  exact ⟨u,[],F,[],rfl,h,⟨rfl,rfl⟩,by simp⟩
theorem JU {s:St} {o:Bool} {ts:List T} {us:List Value} {F:List Nat} (h:TRs s o ts us F) (i m:Nat): ∃Fa Fb Fc,F=Fa++(Fb++Fc)∧TRs s o (ts.take i) (us.take i) Fa∧TRs s o ((ts.drop i).take m) ((us.drop i).take m) Fb∧TRs s o (ts.drop (i+m)) (us.drop (i+m)) Fc:=by
 have e:ts=ts.take i++((ts.drop i).take m++ts.drop (i+m)):=by
  rw [←List.drop_drop,List.take_append_drop,List.take_append_drop]
 have hl:=H3 h
 rw [e] at h
 obtain ⟨u1,u2,Fa,F2,rfl,h1,h2,rfl⟩:=KH.1 h
 obtain ⟨u3,u4,Fb,Fc,rfl,h3,h4,rfl⟩:=KH.1 h2
 have l1:=H3 h1
 have l3:=H3 h3
 have l4:=H3 h4
 refine ⟨Fa,Fb,Fc,rfl, ?_, ?_, ?_⟩
 ·have:(u1++(u3++u4)).take i=u1:=by
   rcases Nat.le_total i ts.length with hi | hi
   ·have:u1.length=i:=by rw [l1,List.length_take];omega
    rw [←this,List.take_left]
   ·have e2:u3++u4=[]:=by
     apply List.eq_nil_of_length_eq_zero
     rw [List.length_append,l3,l4,List.length_take,List.length_drop,List.length_drop];omega
    rw [e2,List.append_nil,List.take_of_length_le];rw [l1,List.length_take];omega
  rw [this];exact h1
 ·have:((u1++(u3++u4)).drop i).take m=u3:=by
   rcases Nat.le_total i ts.length with hi | hi
   ·have:u1.length=i:=by rw [l1,List.length_take];omega
    rw [←this,List.drop_left]
    rcases Nat.le_total m (ts.length-i) with hm | hm
    ·have:u3.length=m:=by rw [l3,List.length_take,List.length_drop];omega
     rw [←this,List.take_left]
    ·have e2:u4=[]:=by
      apply List.eq_nil_of_length_eq_zero
      rw [l4,List.length_drop];omega
     rw [e2,List.append_nil,List.take_of_length_le];rw [l3,List.length_take,List.length_drop];omega
   ·have e2:u3=[]:=by
     apply List.eq_nil_of_length_eq_zero
     rw [l3,List.length_take,List.length_drop];omega
    have e3:u4=[]:=by
     apply List.eq_nil_of_length_eq_zero
     rw [l4,List.length_drop];omega
    rw [e2,e3];rw [List.drop_eq_nil_of_le]; · exact List.take_nil
    ·simp [l1,List.length_take];omega
  rw [this];exact h3
 ·have:(u1++(u3++u4)).drop (i+m)=u4:=by
   rw [←List.append_assoc]
   rcases Nat.le_total (i+m) ts.length with hi | hi
   ·have:(u1++u3).length=i+m:=by rw [List.length_append,l1,l3,List.length_take,List.length_take,List.length_drop];omega
    rw [←this,List.drop_left]
   ·have e2:u4=[]:=by
     apply List.eq_nil_of_length_eq_zero
     rw [l4,List.length_drop];omega
    rw [e2,List.append_nil,List.drop_eq_nil_of_le]
    rw [List.length_append,l1,l3,List.length_take,List.length_take,List.length_drop];omega
  rw [this];exact h4
theorem TV {s:St} {o:Bool} {ts:List T} {us:List Value} {F:List Nat} (h:TRs s o ts us F) {i:Nat} {t:T} (hi:ts[i]? =some t): ∃u F',us[i]? =some u∧TR s o t u F'∧F'.Sublist F:=by
 obtain ⟨Fa,Fb,Fc,rfl,h1,h2,h3⟩:=JU h i 1
 have hlt:=(List.getElem?_eq_some_iff.1 hi).1
 have e:(ts.drop i).take 1=[t]:=by rw [List.take_one,List.head?_drop,hi];rfl
 rw [e] at h2
 obtain ⟨u,hu,h2⟩:=GP.1 h2
 refine ⟨u,Fb, ?_,h2,(List.sublist_append_left Fb Fc).trans (List.sublist_append_right Fa _)⟩
 rw [List.take_one,List.head?_drop] at hu
 cases hx:us[i]? with
 | none=>rw [hx] at hu;simp at hu
 | some y=>rw [hx] at hu;simp at hu;rw [hu]
theorem M9 {s s':St} {o:Bool} {ts ts':List T} {us us':List Value} {Fa Fb Fb' Fc:List Nat} {i:Nat} (h1:TRs s o (ts.take i) (us.take i) Fa) (h3:TRs s o (ts.drop (i+ts'.length)) (us.drop (i+ts'.length)) Fc)
  (h2:TRs s' o ts' us' Fb') (ha: ∀x∈Fa,s'.get x=s.get x) (hc: ∀x∈Fc,s'.get x=s.get x):TRs s' o (ts.take i++(ts'++ts.drop (i+ts'.length))) (us.take i++(us'++us.drop (i+ts'.length))) (Fa++(Fb'++Fc)):=
 KH.2 ⟨_,_,_,_,rfl,HJ _ _ _ ha h1,KH.2 ⟨_,_,_,_,rfl,h2,HJ _ _ _ hc h3,rfl⟩,rfl⟩
theorem Win.frame {s s':St} {o:Bool} {cs:List T} {h b:Nat} {F:List Nat} (hw:Win s o cs h b F) (hf: ∀x∈F,s'.get x=s.get x):Win s' o cs h b F:=by
 obtain ⟨ob,F',h1,h2,h3,h4,rfl⟩:=hw
 exact ⟨ob,F',by rw [hf h (by simp)];exact h1,h2,h3,HJ _ _ _ (fun x hx=>hf x (by simp [hx])) h4,rfl⟩
theorem Win.ro {s:St} {o:Bool} {cs:List T} {h b:Nat} {F:List Nat} (hw:Win s o cs h b F):Win s false cs h b F:=by
 obtain ⟨ob,F',h1,h2,h3,h4,rfl⟩:=hw
 exact ⟨ob,F',h1,(fun h=>by cases h),h3,cF _ _ _ h4,rfl⟩
theorem Win.lt {s:St} {o:Bool} {cs:List T} {h b:Nat} {F:List Nat} (hw:Win s o cs h b F): ∀x∈F,x<s.n:=by
 obtain ⟨ob,F',h1,h2,h3,h4,rfl⟩:=hw
 intro x hx
 rcases List.mem_cons.1 hx with rfl | hx
 ·exact St.FK h1
 ·exact eL _ _ _ h4 x hx
theorem fX {α:Type} (l:List α) (b n i m:Nat) (h:i+m≤n):(((l.drop b).take n).drop i).take m=(l.drop (b+i)).take m:=by
 rw [List.drop_take,List.drop_drop,List.take_take]
 congr 1;omega
theorem Win.sub {s:St} {o:Bool} {cs:List T} {h b:Nat} {F:List Nat} (hw:Win s o cs h b F) {i m:Nat} (hm:i+m≤cs.length): ∃F',Win s o ((cs.drop i).take m) h (b+i) F'∧F'.Sublist F:=by
 obtain ⟨ob,F1,h1,h2,h3,h4,rfl⟩:=hw
 obtain ⟨Fa,Fb,Fc,rfl,k1,k2,k3⟩:=JU h4 i m
 have hl:((cs.drop i).take m).length=m:=by rw [List.length_take,List.length_drop];omega
 refine ⟨h::Fb,⟨ob,Fb,h1,h2,by rw [hl];omega, ?_,rfl⟩,List.Sublist.cons_cons _ ((List.sublist_append_left Fb Fc).trans (List.sublist_append_right Fa _))⟩
 rw [hl]
 rwa [fX _ _ _ _ _ hm] at k2
def node:List T→List Nat→Option (List T)
 | cs,[]=>some cs
 | cs,i::r=>match cs[i]? with
   | some (.l _ ds)=>node ds r
   | _=>none
def GF:List T→List Nat→List T→List T
 | _,[],ds=>ds
 | cs,i::r,ds=>match cs[i]? with
   | some (.l e es)=>cs.set i (.l e (GF es r ds))
   | _=>cs
def spot (s:St) (h b:Nat):List Nat→Option (Nat×Nat)
 | []=>some (h,b)
 | i::r=>match s.get h with
   | some ob=>match ob.cells[b+i]? with
     | some (.slice (some ⟨h1,b1,none⟩) _ _)=>spot s h1 b1 r
     | _=>none
   | none=>none
theorem HR {α:Type} (l:List α) (b n i:Nat) (h:i<n):((l.drop b).take n)[i]? =l[b+i]? :=by
 rw [List.getElem?_take_of_lt h,List.getElem?_drop]
theorem Win.node {s:St} {o:Bool}: ∀{pre:List Nat} {cs ds:List T} {h b:Nat} {F:List Nat},Win s o cs h b F→node cs pre=some ds→(ds=[]∧pre≠[]∧spot s h b pre=none)∨ ∃h' b' F',spot s h b pre=some (h',b')∧Win s o ds h' b' F'∧F'.Sublist F
 | [],cs,ds,h,b,F,hw,hn=>by
   simp only [Eng.node,Option.some.injEq] at hn
   subst hn
   exact .inr ⟨h,b,F,rfl,hw,List.Sublist.refl _⟩
 | i::r,cs,ds,h,b,F,hw,hn=>by
   simp only [Eng.node] at hn
   obtain ⟨ob,F1,h1,h2,h3,h4,rfl⟩:=hw
   split at hn
   ·rename_i e es hi
    have hlt:=(List.getElem?_eq_some_iff.1 hi).1
    obtain ⟨u,F2,hu,ht,hsub⟩:=TV h4 hi
    rw [HR _ _ _ _ hlt] at hu
    rcases GA.1 ht with ⟨rfl,rfl,rfl⟩ | ⟨h',b',n',rfl,hl,hw'⟩
    ·left
     refine ⟨?_,by simp,by simp only [spot,h1,hu,nl]⟩
     cases r with
     | nil=>simpa [Eng.node] using hn.symm
     | cons j r=>simp [Eng.node] at hn
    ·rcases Win.node hw' hn with ⟨hd,_,hs⟩ | ⟨h'',b'',F3,k1,k2,k3⟩
     ·exact .inl ⟨hd,by simp,by simp only [spot,h1,hu,sl];exact hs⟩
     ·exact .inr ⟨h'',b'',F3,by simp only [spot,h1,hu,sl];exact k1,k2,(k3.trans hsub).cons _⟩
   ·cases hn
theorem UN {s s':St} {o:Bool}: ∀{pre:List Nat} {cs:List T} {h b:Nat} {F:List Nat},Win s o cs h b F→(∀x∈F,s'.get x=s.get x)→(node cs pre).isSome→spot s' h b pre=spot s h b pre
 | [],cs,h,b,F,hw,hf,hn=>rfl
 | i::r,cs,h,b,F,hw,hf,hn=>by
   obtain ⟨ob,F1,h1,h2,h3,h4,rfl⟩:=hw
   simp only [Eng.node] at hn
   split at hn
   ·rename_i e es hi
    have hlt:=(List.getElem?_eq_some_iff.1 hi).1
    obtain ⟨u,F2,hu,ht,hsub⟩:=TV h4 hi
    rw [HR _ _ _ _ hlt] at hu
    simp only [spot,hf h (by simp),h1,hu]
    rcases GA.1 ht with ⟨rfl,_⟩ | ⟨h',b',n',rfl,hl,hw'⟩
    ·rfl
    ·simp only [sl]
     exact UN hw' (fun x hx=>hf x (by simp [hsub.subset hx])) hn
   ·cases hn
end Go.Proofs.Ytklmcfpgdfibnaa.Eng
namespace Go.Proofs.Ytklmcfpgdfibnaa.Eng
open Go Go.RowKit
set_option linter.unusedVariables false
def prP (r:Option Value) (K:Value→Prop):Prop:= ∃v,r=some v∧plain v=true∧K v
def gP (g:Value) (want:Bool) (m:(Value→Prop)→Prop) (K:Value→Prop):Prop:=(g= .bool want∧m K)∨((g= .bool !want∨g=undef)∧K undef)
def isB:Value→Bool
 | .bool _=>true
 | .tuple ⟨[]⟩=>true
 | _=>false
def gE (g:Value) (q:Prop):Prop:=isB g=true∧q
def AX (g:Value) (p q:Prop):Prop:=(g= .bool true∧p)∨(g= .bool false∧q)
abbrev J2:=List Value→List (List T)→Prop
def BK (f:J2) (g:J2→Prop):Prop:=g f
def BE (F:J2→J2) (xs:List Value) (cs:List (List T)):Prop:= ∀R:J2,(∀xs cs,F R xs cs→R xs cs)→R xs cs
def AD:Value→Nat
 | .int _ n=>n.toNat
 | _=>0
def iv (n:Nat):Value:= .int .i64 n
def cnt (e:Nat) (cs:List T):Nat:=match e with
 | 1=>cs.length
 | _=>cs.length/e
def cell (cs:List T) (pre:List Nat) (off:Nat):Option T:=(node cs pre).bind fun ds=>ds[off]?
def KK (ds:List T) (off:Nat) (ts:List T):List T:=ds.take off++(ts++ds.drop (off+ts.length))
def IZ (cs:List T) (pre:List Nat) (off:Nat) (ts:List T):List T:=match node cs pre with
 | some ds=>GF cs pre (KK ds off ts)
 | none=>cs
def GB (cs:List T) (pre:List Nat) (off m:Nat):List T:=match node cs pre with
 | some ds=>(ds.drop off).take m
 | none=>[]
inductive CK where
 | c
 | l (e:Nat)
def KC:List CK→List T→Bool
 | [],[]=>true
 | .c::r, .c _::ts=>KC r ts
 | .l e::r, .l e' _::ts=>Nat.beq e e'&&KC r ts
 | _,_=>false
def ldc (cs:List T) (pre:List Nat) (off:Nat) (K:Value→Prop):Prop:= ∃v,cell cs pre off=some (.c v)∧K v
def ldl (cs:List T) (pre:List Nat) (off e:Nat) (K:Value→Prop):Prop:=(∃ds,cell cs pre off=some (.l e ds))∧K (iv 0)
def FJ (cs:List T) (pre:List Nat):List T:=match node cs pre with
 | some ds=>ds
 | none=>[]
def ldg (cs:List T) (pre:List Nat) (off:Nat) (ks:List CK) (K:List T→Prop):Prop:= ∃ts,GB cs pre off ks.length=ts∧KC ks ts=true∧K ts
def tv:T→Value
 | .c v=>v
 | _=>undef
def nxT (ts:List T) (i:Nat):T:=ts.getD i (.c undef)
def nxc (cs:List (List T)) (i:Nat):List T:=cs.getD i []
def stc (cs:List T) (pre:List Nat) (off:Nat) (a:Value) (K:List T→Prop):Prop:=(∃w,cell cs pre off=some (.c w))∧K (IZ cs pre off [.c a])
def stg (cs:List T) (pre:List Nat) (off:Nat) (ts:List T) (K:List T→Prop):Prop:=(∃ds,node cs pre=some ds∧off+ts.length≤ds.length)∧K (IZ cs pre off ts)
def mvW (cs:List T) (pre:List Nat) (off e:Nat) (K:List T→List T→Prop):Prop:= ∃ds,cell cs pre off=some (.l e ds)∧K ds (IZ cs pre off [.x])
def ixW (n:Nat) (i:Value) (K:Value→Prop):Prop:= ∃k j,i= .int k (Int.ofNat j)∧j<n∧K (iv j)
def scW (n:Nat) (lo hi:Option Value) (K:Value→Value→Prop):Prop:= ∃l h,bnd 0 lo=some l∧bnd n hi=some h∧l≤h∧h≤n∧K (iv l) (iv (h-l))
def mkW (bytes:Nat) (l c:Value) (K:Value→Prop):Prop:= ∃n:Nat,l=iv n∧c=iv n∧bytes*n≤2^48∧K (iv n)
def PO (n:Nat) (z:List T):List T:=(List.replicate n z).flatten
def isC:T→Bool
 | .c _=>true
 | .l _ _=>false
 | .x=>false
def flat (c:List T):Bool:=c.all isC
def apW (c:List T) (plainly:Bool) (n m bytes:Nat) (q:Prop):Prop:=(plainly=true→flat c=true)∧(n+m)*bytes≤2^47∧q
def PB:T→Bool
 | .c (.int .u8 _)=>true
 | _=>false
def bN (b:ByteArray):T→ByteArray
 | .c (.int _ n)=>b.push (UInt8.ofNat n.toNat)
 | _=>b
def b2T (ts:List T):Option Value:=if ts.all PB then some (.string (ts.foldl bN ByteArray.empty)) else none
def gF (g:Value) (want:Bool) (p q:Prop):Prop:=(g= .bool want∧p)∨((g= .bool !want∨g=undef)∧q)
def gC (g:Value) (want:Bool) (m:J2→Prop) (K:J2):Prop:=(g= .bool want∧m K)∨((g= .bool !want∨g=undef)∧K [] [])
inductive CS where
 | v
 | t (e m:Nat)
inductive RC where
 | v
 | t (e:Nat)
 | a (j:Nat)
structure Sg where
 ps:List (Nat×List CS)
 rs:List (Nat×List RC)
 bs:List (List RC)
def CP (s:St):List CS→List Value→List Value→List (List T)→List Value→List Nat→List Nat→Prop
 | [],us,vs,cs,sv,M,D=>us=[]∧vs=[]∧cs=[]∧sv=[]∧M=[]∧D=[]
 | .v::r,us,vs,cs,sv,M,D=> ∃u us' vs',us=u::us'∧vs=u::vs'∧plain u=true∧CP s r us' vs' cs sv M D
 | .t e m::r,us,vs,cs,sv,M,D=> ∃u us' c cs' sv' F M' D',us=u::us'∧cs=c::cs'∧sv=u::sv'∧TR s (!(Nat.beq m 0)) (.l e c) u F∧
   (match m with | 0=>M=M'∧D=F++D' | _=>M=F++M'∧D=D')∧CP s r us' vs cs' sv' M' D'
def OS (s:St):List (Nat×List CS)→List Value→List Value→List (List T)→List Value→List Nat→List Nat→Prop
 | [],as,vs,cs,sv,M,D=>as=[]∧vs=[]∧cs=[]∧sv=[]∧M=[]∧D=[]
 | (w,k)::r,as,vs,cs,sv,M,D=> ∃a as' us v1 v2 c1 c2 s1 s2 M1 M2 D1 D2,as=a::as'∧vs=v1++v2∧cs=c1++c2∧sv=s1++s2∧D=D1++D2∧CP s k us v1 c1 s1 M1 D1∧OS s r as' v2 c2 s2 M2 D2∧
     match w with
     | 0=>us=[a]∧M=M1++M2
     | 1=>a= .agg us.toArray∧M=M1++M2
     | _=> ∃h,a=pt h 0∧s.get h=some ⟨us,true⟩∧M=h::(M1++M2)
def MR (s:St) (sv:List Value):List RC→List Value→List Value→List (List T)→List Nat→Prop
 | [],us,vs,cs,M=>us=[]∧vs=[]∧cs=[]∧M=[]
 | .v::r,us,vs,cs,M=> ∃u us' vs',us=u::us'∧vs=u::vs'∧plain u=true∧MR s sv r us' vs' cs M
 | .t e::r,us,vs,cs,M=> ∃u us' c cs' F M',us=u::us'∧cs=c::cs'∧TR s true (.l e c) u F∧M=F++M'∧MR s sv r us' vs cs' M'
 | .a j::r,us,vs,cs,M=> ∃u us',us=u::us'∧sv[j]? =some u∧MR s sv r us' vs cs M
def WR (s:St) (sv:List Value):List (Nat×List RC)→List Value→List Value→List (List T)→List Nat→Prop
 | [],as,vs,cs,M=>as=[]∧vs=[]∧cs=[]∧M=[]
 | (w,k)::r,as,vs,cs,M=> ∃a as' us v1 v2 c1 c2 M1 M2,as=a::as'∧vs=v1++v2∧cs=c1++c2∧MR s sv k us v1 c1 M1∧WR s sv r as' v2 c2 M2∧
     match w with
     | 0=>us=[a]∧M=M1++M2
     | 1=>a= .agg us.toArray∧M=M1++M2
     | _=> ∃h,a=pt h 0∧s.get h=some ⟨us,true⟩∧M=h::(M1++M2)
def RR (s:St) (sv:List Value):List (Nat×List CS)→List Value→List (List RC)→List Value→List (List T)→List Nat→Prop
 | [],as,bs,vs,cs,M=>bs=[]∧vs=[]∧cs=[]∧M=[]
 | (2,k)::r,as,bs,vs,cs,M=> ∃h as' b bs' us v1 v2 c1 c2 M1 M2,as=pt h 0::as'∧bs=b::bs'∧vs=v1++v2∧cs=c1++c2∧s.get h=some ⟨us,true⟩∧MR s sv b us v1 c1 M1∧RR s sv r as' bs' v2 c2 M2∧M=h::(M1++M2)
 | (_,k)::r,as,bs,vs,cs,M=> ∃a as',as=a::as'∧RR s sv r as' bs vs cs M
def CH (ps:List (Nat×List CS)):List CS:=(ps.map (·.2)).flatten
def PS (s:St):List CS→List Value→List (List T)→List (List T)→List Nat→Prop
 | [],sv,cs,cs',M=>cs'=[]∧M=[]
 | .v::r,sv,cs,cs',M=>PS s r sv cs cs' M
 | .t e 1::r,sv,cs,cs',M=> ∃u sv1 c cs1 c' cs1' F M',sv=u::sv1∧cs=c::cs1∧cs'=c'::cs1'∧TR s true (.l e c') u F∧c'.length=c.length∧M=F++M'∧PS s r sv1 cs1 cs1' M'
 | .t e _::r,sv,cs,cs',M=> ∃u sv1 c cs1,sv=u::sv1∧cs=c::cs1∧PS s r sv1 cs1 cs' M
def WB:List Value→Value
 | [v]=>v
 | vs=> .tuple vs.toArray
structure wA (s:St) (g:Sg) (as sv:List Value) (cs:List (List T)) (v:Value) (vs':List Value) (cs':List (List T)) (M:List Nat):Prop where
 ex: ∃as' v1 v2 c1 c2 c3 M1 M2 M3,v=WB as'∧(∀a∈as',MG a=true)∧vs'=v1++v2∧cs'=c1++(c2++c3)∧M=M1++(M2++M3)∧WR s sv g.rs as' v1 c1 M1∧RR s sv g.ps as g.bs v2 c2 M2∧PS s (CH g.ps) sv cs c3 M3
def cl2 (C:Ctx) (f:FuncId) (g:Sg) (vs:List Value) (cs:List (List T)) (K:J2):Prop:=
 ∀s as sv M D,OS s g.ps as vs cs sv M D→M.Nodup→(∀x∈M,x∉D)→
  ∃v s' M' vs' cs',kI C f as s v s'∧(∀h,h<s.n→h∉M→s'.get h=s.get h)∧wA s' g as sv cs v vs' cs' M'∧M'.Nodup∧(∀h∈M',h∈M∨s.n≤h)∧s.n≤s'.n∧K vs' cs'
def C2 (C:Ctx) (f:FuncId) (sz n:Nat) (K:Value→Prop):Prop:= ∃m:Nat,m≤n∧(∀s u v,((u=nl∧n=0)∨ ∃a b,u=sl a b n sz)→scL sz u none (some (iv m))=some v→kI C f [u] s v s)∧K (iv m)
def uT (g:Sg):Bool:=match g.rs with
 | [(9,[])]=>true
 | _=>false
inductive E0 where
 | v (a:Value)
 | q (a:Value)
 | z
 | p (k off:Nat)
 | e (k:Nat) (pre:List Nat) (off:Nat)
 | s (k:Nat) (pre:List Nat) (off n sz:Nat)
 | t (k sz:Nat)
 | n (k:Nat) (pre:List Nat) (sz:Nat)
 | a (k off n:Nat) (j:Value)
 | w
inductive EV where
 | o (x:E0)
 | g (xs:List E0)
 | u (ys:List (Bool×List E0))
inductive Ob2 where
 | bx (cs:List E0)
 | ls (own:Bool) (cs:List T)
abbrev Obs:=List (Nat×Ob2)
abbrev DR:=List (Nat×Option (Nat×Bool)×EV)
def PJ:List (List T)→Nat→Option Ob2
 | [],_=>none
 | c::_,0=>some (.ls false c)
 | _::r,k+1=>PJ r k
def BT:Obs→Nat→Option Ob2
 | [],_=>none
 | (a,o)::r,k=>match Nat.beq a k with
   | true=>some o
   | false=>BT r k
def AV (ro:List (List T)) (ob:Obs) (k:Nat):Option Ob2:=match BT ob k with
 | some o=>some o
 | none=>PJ ro k
def GC:Obs→Nat→Ob2→Obs
 | [],_,_=>[]
 | (a,o)::r,k,x=>match Nat.beq a k with
   | true=>(a,x)::r
   | false=>(a,o)::GC r k x
def KY:Obs→Nat→Obs
 | [],_=>[]
 | (a,o)::r,k=>match Nat.beq a k with
   | true=>r
   | false=>(a,o)::KY r k
def lkE:DR→Nat→Option (Nat×Bool)×EV
 | [],_=>(none, .o .w)
 | (d,x)::r,t=>match Nat.beq d t with
   | true=>x
   | false=>lkE r t
def PM:List (Nat×Bool)→Nat→Bool→Bool
 | [],_,_=>false
 | (g,w)::r,g',w'=>(Nat.beq g g'&&(w==w'))||PM r g' w'
def ZY (env:DR):Nat→Nat→Bool→List (Nat×Bool)
 | 0,g,w=>[(g,w)]
 | n+1,g,w=>(g,w)::match (lkE env g).1 with
   | some (g',w')=>ZY env n g' w'
   | none=>[]
def upg:EV→EV
 | .o (.q x)=> .o (.v x)
 | e=>e
def dng:EV→EV
 | .o (.q x)=> .o (.q x)
 | _=> .o .w
def tkE (av:List (Nat×Bool)) (x:Option (Nat×Bool)×EV):EV:=match x.1 with
 | none=>x.2
 | some (g,w)=>match PM av g w with
   | true=>upg x.2
   | false=>dng x.2
def cE0:Value→E0
 | .bool b=> .v (.bool b)
 | .int k n=> .v (.int k n)
 | .string s=> .v (.string s)
 | .slice none 0 0=> .z
 | _=> .w
def dS:Value→EV
 | .agg cs=>match cs.toList.all I1 with
   | true=> .g (cs.toList.map cE0)
   | false=> .o .w
 | v=> .o (cE0 v)
def ev2 (av:List (Nat×Bool)) (env:DR):Operand→EV
 | .tmp t=>tkE av (lkE env t)
 | .const v=>dS v
 | _=> .o .w
def valOf:EV→Option Value
 | .o (.v a)=>some a
 | .o (.q a)=>some a
 | _=>none
def oH:E0→Bool
 | .q _=>false
 | .w=>false
 | _=>true
def NM:EV→Option (List E0)
 | .o x=>match oH x with | true=>some [x] | false=>none
 | .g xs=>match xs.all oH with | true=>some xs | false=>none
 | .u _=>none
def NT:List E0→Option (List Value)
 | []=>some []
 | .v a::r=>(NT r).map (a:: ·)
 | _::_=>none
def ZN (k:TypeId→Option (List CK)):List Field→Option (List CK)
 | []=>some []
 | f::r=>(k f.type).bind fun a=>(ZN k r).map fun b=>a++b
def MF (P:Program):Nat→TypeId→Option (List CK)
 | 0,_=>none
 | n+1,t=>match P.underlying t with
   | some (.int _)=>some [.c]
   | some .bool=>some [.c]
   | some .string=>some [.c]
   | some (.slice e)=>(szT P e).bind fun sz=>match sz with
     | 0=>none
     | sz+1=>some [.l (sz+1)]
   | some (.struct fs)=>ZN (MF P n) fs.toList
   | some (.array m e)=>(MF P n e).map fun ks=>(List.replicate m ks).flatten
   | _=>none
def zTs:List CK→List Value→Option (List T)
 | [],[]=>some []
 | .c::r,v::vs=>match plain v with
   | true=>(zTs r vs).map (T.c v:: ·)
   | false=>none
 | .l e::r, .slice none 0 0::vs=>(zTs r vs).map (T.l e []:: ·)
 | _,_=>none
def toT:List CK→List E0→Obs→Option (List T×Obs)
 | [],[],ob=>some ([],ob)
 | .c::r, .v a::xs,ob=>(toT r xs ob).map fun p=>(T.c a::p.1,p.2)
 | .l e::r, .z::xs,ob=>(toT r xs ob).map fun p=>(T.l e []::p.1,p.2)
 | .l e::r, .t k e'::xs,ob=>match Nat.beq e e',BT ob k with
   | true,some (.ls true cs)=>(toT r xs (KY ob k)).map fun p=>(T.l e cs::p.1,p.2)
   | _,_=>none
 | _,_,_=>none
def aC (ks:List CK):List (Nat×List E0)→List T→Obs→Option (List T×Obs)
 | [],ts,ob=>some (ts,ob)
 | (off,xs)::r,ts,ob=>match Nat.ble (off+ks.length) ts.length with
   | true=>(toT ks xs ob).bind fun p=>aC ks r (KK ts off p.1) p.2
   | false=>none
def Z3:List E0→List (Nat×Nat×List E0)→Option (List E0)
 | cells,[]=>some cells
 | cells,(off,size,xs)::r=>match Nat.beq xs.length size&&Nat.ble (off+size) cells.length with
   | true=>Z3 (cells.take off++(xs++cells.drop (off+xs.length))) r
   | false=>none
def QK (P:Program) (av:List (Nat×Bool)) (env:DR) (fields:Array Field):List (Nat×Operand)→Option (List (Nat×Nat×List E0))
 | []=>some []
 | (i,x)::r=>(fields[i]?).bind fun f=>(szT P f.type).bind fun sz=>(NM (ev2 av env x)).bind fun xs=>(QK P av env fields r).map fun l=>(f.offset,sz,xs)::l
def OO (av:List (Nat×Bool)) (env:DR) (sz:Nat):List (Nat×Operand)→Option (List (Nat×List E0))
 | []=>some []
 | (i,x)::r=>(NM (ev2 av env x)).bind fun xs=>(OO av env sz r).map fun l=>(i*sz,xs)::l
inductive R2 where
  /-- known at once; no row changes -/
 | ev (e:EV)
  /-- nothing to ask -/
 | st (aff:List Nat) (ob:Obs) (nk:Nat) (e:EV)
  /-- a plain value; no row changes -/
 | wd (m:(Value→Prop)→Prop) (mk:Value→EV)
  /-- anything -/
 | fr (aff kl:List Nat) (m:(Obs→Nat→EV→Prop)→Prop)
  /-- a call that writes nothing that was there -/
 | cr (m:J2→Prop) (sl:List E0) (rs:List (Nat×List RC))
def C4 (kl:List Nat):E0→E0
 | .e k (i::r) off=>match kl.any (Nat.beq k) with | true=> .w | false=> .e k (i::r) off
 | .s k (i::r) off n sz=>match kl.any (Nat.beq k) with | true=> .w | false=> .s k (i::r) off n sz
 | .n k (i::r) sz=>match kl.any (Nat.beq k) with | true=> .w | false=> .n k (i::r) sz
 | x=>x
def H8 (kl:List Nat):EV→EV
 | .o x=> .o (C4 kl x)
 | .g xs=> .g (xs.map (C4 kl))
 | .u ys=> .u (ys.map fun y=>(y.1,y.2.map (C4 kl)))
def H2 (kl:List Nat) (env:DR):DR:=match kl with
 | []=>env
 | _=>env.map fun x=>(x.1,x.2.1,H8 kl x.2.2)
def EB (kl:List Nat):Obs→Obs
 | []=>[]
 | (a, .bx xs)::r=>(a, .bx (xs.map (C4 kl)))::EB kl r
 | x::r=>x::EB kl r
def OE (x:Value):EV:= .o (.v x)
structure SlI where
 cs:List T
 n:Nat
def DA (ro:List (List T)) (ob:Obs):E0→Nat→Option (List T)
 | .z,_=>some []
 | .t k e',e=>match Nat.beq e e' with
   | true=>match AV ro ob k with
     | some (.ls _ cs)=>some cs
     | _=>none
   | false=>none
 | .s k pre off n e',e=>match Nat.beq e e' with
   | true=>match AV ro ob k with
     | some (.ls _ cs)=>some (GB cs pre off (n*e))
     | _=>none
   | false=>none
 | .n k pre e',e=>match Nat.beq e e' with
   | true=>match AV ro ob k with
     | some (.ls _ cs)=>some (FJ cs pre)
     | _=>none
   | false=>none
 | _,_=>none
def H0 (ro:List (List T)) (ob:Obs):E0→Option Nat
 | .z=>some 0
 | .t k e=>match AV ro ob k with
   | some (.ls _ cs)=>some (cnt e cs)
   | _=>none
 | .s k _ _ n _=>match AV ro ob k with
   | some (.ls _ _)=>some n
   | _=>none
 | .n k pre e=>match AV ro ob k with
   | some (.ls _ cs)=>some (cnt e (FJ cs pre))
   | _=>none
 | _=>none
def hC (cs:List T) (k:Nat) (pre:List Nat) (off:Nat):List CK→Bool→Option R2
 | [.c],false=>some (.wd (ldc cs pre off) OE)
 | [.l e],false=>some (.wd (ldl cs pre off e) fun _=> .o (.n k (pre++[off]) e))
 | _,_=>none
def mkG (k:Nat) (pre:List Nat) (off:Nat) (ts:List T):List CK→Nat→List E0
 | [],_=>[]
 | .c::r,j=> .v (tv (nxT ts j))::mkG k pre off ts r (j+1)
 | .l e::r,j=> .n k (pre++[off+j]) e::mkG k pre off ts r (j+1)
def bA:List CK→Bool
 | []=>true
 | .c::r=>bA r
 | _::_=>false
structure Ar where
 vs:List Value
 cs:List (List T)
 sl:List E0
 mu:List Nat
 rd:List Nat
def DX:E0→List Nat
 | .p k _=>[k]
 | .e k _ _=>[k]
 | .s k _ _ _ _=>[k]
 | .t k _=>[k]
 | .n k _ _=>[k]
 | .a k _ _ _=>[k]
 | _=>[]
def arG (vs:List Value) (j:Value):Option Value:=vs[AD j]?
def arP (j:Value) (i:Nat) (a v:Value):Value:=match Nat.beq (AD j) i with
 | true=>a
 | false=>v
def arS (j a:Value):List Value→Nat→List E0
 | [],_=>[]
 | v::r,i=> .v (arP j i a v)::arS j a r (i+1)
def MB (ob:Obs):E0→Bool
 | .z=>true
 | .t k _=>match BT ob k with | some (.ls true _)=>true | _=>false
 | .n k _ _=>match BT ob k with | some (.ls true _)=>true | _=>false
 | _=>false
def YB (ob:Obs):E0→Bool
 | .z=>true
 | .t k _=>match BT ob k with | some (.ls true _)=>true | _=>false
 | _=>false
def NN (ro:List (List T)) (ob:Obs):List CS→List E0→Option Ar
 | [],[]=>some ⟨[],[],[],[],[]⟩
 | .v::r, .v a::xs=>(NN ro ob r xs).map fun p=>⟨a::p.vs,p.cs,p.sl,p.mu,p.rd⟩
 | .t e m::r,x::xs=>(DA ro ob x e).bind fun c=>(NN ro ob r xs).bind fun p=>match m with
   | 0=>some ⟨p.vs,c::p.cs,x::p.sl,p.mu,DX x++p.rd⟩
   | 1=>match MB ob x with | true=>some ⟨p.vs,c::p.cs,x::p.sl,DX x++p.mu,p.rd⟩ | false=>none
   | _=>match YB ob x with | true=>some ⟨p.vs,c::p.cs,x::p.sl,DX x++p.mu,p.rd⟩ | false=>none
 | _,_=>none
def PQ (ro:List (List T)) (ob:Obs):List (Nat×List CS)→List EV→Option Ar
 | [],[]=>some ⟨[],[],[],[],[]⟩
 | (w,k)::r,a::as=>(PQ ro ob r as).bind fun q=>match w,a with
   | 0, .o x=>(NN ro ob k [x]).map fun p=>⟨p.vs++q.vs,p.cs++q.cs,p.sl++q.sl,p.mu++q.mu,p.rd++q.rd⟩
   | 1, .g xs=>(NN ro ob k xs).map fun p=>⟨p.vs++q.vs,p.cs++q.cs,p.sl++q.sl,p.mu++q.mu,p.rd++q.rd⟩
   | 2, .o (.p b 0)=>match BT ob b with
     | some (.bx xs)=>(NN ro ob k xs).map fun p=>⟨p.vs++q.vs,p.cs++q.cs,p.sl++q.sl,b::(p.mu++q.mu),p.rd++q.rd⟩
     | _=>none
   | _,_=>none
 | _,_=>none
def UF:List Nat→Bool
 | []=>true
 | a::r=> !(r.any (Nat.beq a))&&UF r
def Y7 (a b:List Nat):Bool:=a.all fun x=> !(b.any (Nat.beq x))
structure Rs where
 xs:List E0
 ob:Obs
 nk:Nat
 i:Nat
 j:Nat
def GG (sl:List E0) (vs:List Value) (cs:List (List T)):List RC→Obs→Nat→Nat→Nat→Rs
 | [],ob,nk,i,j=>⟨[],ob,nk,i,j⟩
 | .v::r,ob,nk,i,j=>let p:=GG sl vs cs r ob nk (i+1) j;⟨.v (nx vs i)::p.xs,p.ob,p.nk,p.i,p.j⟩
 | .t e::r,ob,nk,i,j=>let p:=GG sl vs cs r ((nk, .ls true (nxc cs j))::ob) (nk+1) i (j+1);⟨.t nk e::p.xs,p.ob,p.nk,p.i,p.j⟩
 | .a n::r,ob,nk,i,j=>let p:=GG sl vs cs r ob nk i j;⟨sl.getD n .w::p.xs,p.ob,p.nk,p.i,p.j⟩
structure Rv where
 ys:List (Nat×List E0)
 ob:Obs
 nk:Nat
 i:Nat
 j:Nat
def IF (sl:List E0) (vs:List Value) (cs:List (List T)):List (Nat×List RC)→Obs→Nat→Nat→Nat→Rv
 | [],ob,nk,i,j=>⟨[],ob,nk,i,j⟩
 | (w,k)::r,ob,nk,i,j=>
   let p:=GG sl vs cs k ob nk i j
   match w with
   | 2=>let q:=IF sl vs cs r ((p.nk, .bx p.xs)::p.ob) (p.nk+1) p.i p.j;⟨(0,[.p p.nk 0])::q.ys,q.ob,q.nk,q.i,q.j⟩
   | w=>let q:=IF sl vs cs r p.ob p.nk p.i p.j;⟨(w,p.xs)::q.ys,q.ob,q.nk,q.i,q.j⟩
def KF (sl:List E0) (vs:List Value) (cs:List (List T)):List (Nat×List CS)→List EV→List (List RC)→Obs→Nat→Nat→Nat→Rs
 | (2,_)::r, .o (.p b _)::as,x::bs,ob,nk,i,j=>
   let p:=GG sl vs cs x ob nk i j
   KF sl vs cs r as bs (GC p.ob b (.bx p.xs)) p.nk p.i p.j
 | _::r,_::as,bs,ob,nk,i,j=>KF sl vs cs r as bs ob nk i j
 | _,_,_,ob,nk,i,j=>⟨[],ob,nk,i,j⟩
def G4 (ro:List (List T)) (cs:List (List T)):List CS→List E0→Obs→Nat→Obs
 | .v::r,sl,ob,j=>G4 ro cs r sl ob j
 | .t e 1::r,x::sl,ob,j=>match x with
   | .t k _=>G4 ro cs r sl (GC ob k (.ls true (nxc cs j))) (j+1)
   | .n k pre _=>match BT ob k with
     | some (.ls true c0)=>G4 ro cs r sl (GC ob k (.ls true (GF c0 pre (nxc cs j)))) (j+1)
     | _=>G4 ro cs r sl ob (j+1)
   | _=>G4 ro cs r sl ob (j+1)
 | .t e _::r,x::sl,ob,j=>G4 ro cs r sl ob j
 | _,_,ob,_=>ob
def KT:List CS→List E0→Obs→Obs
 | .v::r,sl,ob=>KT r sl ob
 | .t e 2::r, .t k _::sl,ob=>KT r sl (KY ob k)
 | .t e _::r,x::sl,ob=>KT r sl ob
 | _,_,ob=>ob
def PT:List (Nat×List E0)→EV
 | [(0,[x])]=> .o x
 | [(_,xs)]=> .g xs
 | ys=> .u (ys.map fun y=>(Nat.beq y.1 1,y.2))
def exE:EV→Nat→EV
 | .u ys,i=>match ys.getD i (false,[]) with
   | (true,xs)=> .g xs
   | (false,[x])=> .o x
   | _=> .o .w
 | _,_=> .o .w
def oY:List (Nat×List RC)→Bool
 | [(0,[.v])]=>true
 | _=>false
def kP:List (Nat×List RC)→Bool
 | []=>true
 | (w,_)::r=> !(Nat.beq w 2)&&kP r
def okC:List CS→Bool
 | []=>true
 | .v::r=>okC r
 | .t e m::r=>Nat.blt 0 e&&Nat.ble m 2&&okC r
def okR:List RC→Bool
 | []=>true
 | .t e::r=>Nat.blt 0 e&&okR r
 | _::r=>okR r
def nL (g:Sg):Bool:=(g.ps.all fun p=>okC p.2)&&(g.rs.all fun p=>okR p.2&&Nat.ble p.1 2)&&g.bs.all okR
def uY:List (Nat×Sg)→Nat→Option Sg
 | [],_=>none
 | (a,g)::r,f=>match Nat.beq a f with
   | true=>some g
   | false=>uY r f
end Go.Proofs.Ytklmcfpgdfibnaa.Eng
namespace Go.Proofs.Ytklmcfpgdfibnaa.Eng
open Go Go.RowKit
set_option linter.unusedVariables false
def ZD (c:Operand) (w:Bool) (av:List (Nat×Bool)):List (Nat×Bool):=match c with
 | .tmp t=>(t,w)::av
 | _=>av
def cQ (av:List (Nat×Bool)) (env:DR):Option Operand→Option (Option Value)
 | none=>some none
 | some x=>(valOf (ev2 av env x)).map some
def isZ:E0→Bool
 | .z=>true
 | _=>false
def szE:E0→Nat
 | .t _ e=>e
 | .s _ _ _ _ e=>e
 | .n _ _ e=>e
 | _=>0
def VY (x:E0) (sz:Nat) (j:Value):EV:=match x with
 | .t k _=> .o (.e k [] (AD j*sz))
 | .n k pre _=> .o (.e k pre (AD j*sz))
 | .s k pre off _ _=> .o (.e k pre (off+AD j*sz))
 | _=> .o .w
def LI (x:E0) (sz:Nat) (l m:Value):EV:=match x with
 | .t k _=> .o (.s k [] (AD l*sz) (AD m) sz)
 | .n k pre _=> .o (.s k pre (AD l*sz) (AD m) sz)
 | .s k pre off _ _=> .o (.s k pre (off+AD l*sz) (AD m) sz)
 | _=> .o .z
def two (a b:Value):Value:= .tuple #[a,b]
def dM:Value→Value
 | .tuple ⟨[a,_]⟩=>a
 | x=>x
def eD:Value→Value
 | .tuple ⟨[_,b]⟩=>b
 | x=>x
def OH (ob:Obs) (sz:Nat):E0→Option (List T×Nat×Obs×List Nat)
 | .z=>some ([],0,ob,[])
 | .t k e=>match Nat.beq e sz,BT ob k with
   | true,some (.ls true c)=>some (c,cnt e c,KY ob k,[k])
   | _,_=>none
 | .s k [] off n e=>match Nat.beq e sz,BT ob k with
   | true,some (.ls true c)=>some (GB c [] off (n*sz),n,KY ob k,[k])
   | _,_=>none
 | _=>none
def ZC (ro:List (List T)) (ob:Obs) (ks:List CK) (x:E0) (sz:Nat):Option (List T×Obs):=match bA ks with
 | true=>(DA ro ob x sz).map fun c=>(c,ob)
 | false=>match x with
   | .z=>some ([],ob)
   | .t k e=>match Nat.beq e sz,BT ob k with
     | true,some (.ls true c)=>some (c,KY ob k)
     | _,_=>none
   | _=>none
def QZ (ks:List CK) (sz:Nat):Bool:=Nat.beq ks.length sz
def eP (ob:Obs) (nk k:Nat) (pre:List Nat) (off:Nat) (ks:List CK) (v:EV):Option R2:=match ks,v,BT ob k with
 | [.c], .o (.v a),some (.ls true cs)=>some (.fr [k] [] fun K=>stc cs pre off a fun cs'=>K (GC ob k (.ls true cs')) nk (.o .w))
 | ks,v,_=>(NM v).bind fun xs=>(toT ks xs ob).bind fun p=>match BT p.2 k with
   | some (.ls true cs)=>some (.fr [k] [k] fun K=>stg cs pre off p.1 fun cs'=>K (EB [k] (GC p.2 k (.ls true cs'))) nk (.o .w))
   | _=>none
def qT (C:Ctx) (ro:List (List T)) (ob:Obs) (f:FuncId) (g:Sg) (as:List EV):Option R2:=match as,g.ps with
 | [.o y],[(_,[.t sz _])]=>(H0 ro ob y).bind fun n=>(DA ro ob y (szE y)).bind fun _=>match Nat.beq (szE y) sz||isZ y with
   | true=>some (.wd (C2 C f sz n) fun x=>LI y sz (iv 0) x)
   | false=>none
 | _,_=>none
def gR (C:Ctx) (ro:List (List T)) (ob:Obs) (nk:Nat) (f:FuncId) (g:Sg) (as:List EV):Option R2:=match uT g with
 | true=>qT C ro ob f g as
 | false=>(PQ ro ob g.ps as).bind fun ar=>match nL g&&UF ar.mu&&Y7 ar.mu ar.rd with
 | false=>none
 | true=>match oY g.rs&&ar.mu.isEmpty&&g.bs.isEmpty with
   | true=>some (.wd (fun K=>cl2 C f g ar.vs ar.cs fun vs' cs'=>K (nx vs' 0)) OE)
   | false=>match ar.mu.isEmpty&&kP g.rs with
   | true=>some (.cr (cl2 C f g ar.vs ar.cs) ar.sl g.rs)
   | false=>some (.fr ar.mu ar.mu fun K=>cl2 C f g ar.vs ar.cs fun vs' cs'=>
     let sl:=ar.sl.map (C4 ar.mu)
     let r:=IF sl vs' cs' g.rs (KT (CH g.ps) ar.sl ob) nk 0 0
     let b:=KF sl vs' cs' g.ps as g.bs r.ob r.nk r.i r.j
     K (EB ar.mu (G4 ro cs' (CH g.ps) ar.sl b.ob b.j)) b.nk (PT r.ys))
def j8:List Nat→Option (List Nat×Nat)
 | []=>none
 | i::r=>match j8 r with
   | none=>some ([],i)
   | some (p,o)=>some (i::p,o)
def lB (len:Nat):List CK→List (Nat×List E0)→Obs→Option (Nat×List T×List Nat×Nat×Nat)
 | [.l e],[(0,[.n k pre e'])],ob=>match Nat.beq e e'&&Nat.beq len 1,BT ob k,j8 pre with
   | true,some (.ls true cs),some (p,off)=>some (k,cs,p,off,e)
   | _,_,_=>none
 | _,_,_=>none
def SZ (ro:List (List T)) (ob:Obs):E0→Bool
 | .p k _=>match BT ob k with
   | some (.bx _)=>true
   | _=>false
 | .e k _ _=>match AV ro ob k with
   | some (.ls _ _)=>true
   | _=>false
 | _=>false
def vU (x:E0) (n:Nat):E0:=match x with
 | .p k off=> .p k (off+n)
 | .e k pre off=> .e k pre (off+n)
 | x=>x
def op2 (C:Ctx) (sgs:List (Nat×Sg)) (ro:List (List T)) (ob:Obs) (nk:Nat) (av:List (Nat×Bool)) (env:DR) (o:Oper):Option R2:=match o.op with
 | .move x | .assign x=>some (.ev (ev2 av env x))
 | .pick c a b=>(valOf (ev2 av env c)).bind fun cv=>(valOf (ev2 (ZD c true av) env a)).bind fun x=>(valOf (ev2 (ZD c false av) env b)).map fun y=> .wd (prP (pk cv x y)) OE
 | .alloc t=>(IC C.P t).map fun z=> .st [] ((nk, .bx (z.1.map cE0))::ob) (nk+1) (.o (.p nk 0))
 | .box _ x=>(NM (ev2 av env x)).map fun xs=> .st [] ((nk, .bx xs)::ob) (nk+1) (.o (.p nk 0))
 | .build t parts=>(IC C.P t).bind fun z=>match C.P.underlying t with
   | some (.struct fields)=>if V1 C.P fields then (QK C.P av env fields parts.toList).bind fun ps=>(Z3 (z.1.map cE0) ps).map fun xs=> .ev (.g xs) else none
   | _=>none
 | .buildSlice t len parts=>match C.P.underlying t with
   | some (.slice e)=>(IC C.P e).bind fun z=>(MF C.P 8 e).bind fun ks=>(zTs ks z.1).bind fun zt=>if 0<z.2.1&&len*z.2.1≤2^24&&QZ ks z.2.1 then
     (OO av env z.2.1 parts.toList).bind fun ps=>match lB len ks ps ob with
     | some (k,cs,pre,off,e1)=>some (.fr [] [k] fun K=>mvW cs pre off e1 fun ds cs'=>K ((nk, .ls true [T.l e1 ds])::EB [k] (GC ob k (.ls true cs'))) (nk+1) (.o (.t nk 1)))
     | none=>(aC ks ps (PO len zt) ob).map fun p=> .st [] ((nk, .ls true p.1)::p.2) (nk+1) (.o (.t nk z.2.1)) else none
   | _=>none
 | .load t a=>(szT C.P t).bind fun sz=>(WQ C.P t).bind fun ag=>match ev2 av env a with
   | .o (.p k off)=>match BT ob k with
     | some (.bx xs)=>match Nat.beq ((xs.drop off).take sz).length sz&&Nat.blt 0 sz with
       | true=>match ag with
         | true=>some (.ev (.g ((xs.drop off).take sz)))
         | false=>match (xs.drop off).take sz with
           | [x]=>some (.ev (.o x))
           | _=>none
       | false=>none
     | _=>none
   | .o (.e k pre off)=>match AV ro ob k with
     | some (.ls _ cs)=>(MF C.P 8 t).bind fun ks=>match QZ ks sz&&Nat.blt 0 sz with
       | true=>match ag with
         | false=>hC cs k pre off ks false
         | true=>some (.fr [] [] fun K=>ldg cs pre off ks fun ts=>K ob nk (.g (mkG k pre off ts ks 0)))
       | false=>none
     | _=>none
   | .o (.a k off n j)=>match BT ob k,ag with
     | some (.bx xs),false=>(NT ((xs.drop off).take n)).bind fun vs=>match Nat.beq sz 1&&Nat.beq vs.length n with
       | true=>some (.wd (prP (arG vs j)) OE)
       | false=>none
     | _,_=>none
   | _=>none
 | .store t a v=>(szT C.P t).bind fun sz=>match ev2 av env a with
   | .o (.p k off)=>match BT ob k with
     | some (.bx xs)=>(NM (ev2 av env v)).bind fun ys=>match Nat.beq ys.length sz&&Nat.ble (off+sz) xs.length with
       | true=>some (.st [k] (GC ob k (.bx (xs.take off++(ys++xs.drop (off+ys.length))))) nk (.o .w))
       | false=>none
     | _=>none
   | .o (.e k pre off)=>(MF C.P 8 t).bind fun ks=>match QZ ks sz&&Nat.blt 0 sz with
     | true=>eP ob nk k pre off ks (ev2 av env v)
     | false=>none
   | .o (.a k off n j)=>match BT ob k,ev2 av env v with
     | some (.bx xs), .o (.v a)=>(NT ((xs.drop off).take n)).bind fun vs=>match Nat.beq sz 1&&Nat.beq vs.length n with
       | true=>some (.st [k] (GC ob k (.bx (xs.take off++(arS j a vs 0++xs.drop (off+n))))) nk (.o .w))
       | false=>none
     | _,_=>none
   | _=>none
 | .nilCheck x=>match ev2 av env x with
   | .o y=>match SZ ro ob y with
     | true=>some (.ev (.o y))
     | false=>none
   | _=>none
 | .binOp op t x y _=>match C.P.underlying t with
   | some (.int _)=>(valOf (ev2 av env x)).bind fun a=>(valOf (ev2 av env y)).map fun b=> .wd (prP (bnI op a b)) OE
   | some .string=>(valOf (ev2 av env x)).bind fun a=>(valOf (ev2 av env y)).map fun b=> .wd (prP (bnS op a b)) OE
   | some .bool=>(valOf (ev2 av env x)).bind fun a=>(valOf (ev2 av env y)).map fun b=> .wd (prP (bnB op a b)) OE
   | some (.struct _)=>match ev2 av env x,ev2 av env y with
     | .g xs, .g ys=>(NT xs).bind fun a=>(NT ys).map fun b=> .wd (prP (bnA C.P op t (.agg a.toArray) (.agg b.toArray))) OE
     | _,_=>none
   | _=>none
 | .unOp op _ x=>(valOf (ev2 av env x)).map fun a=> .wd (prP (un op a)) OE
 | .convert src dst x=>match C.P.underlying src,C.P.underlying dst with
   | some (.int _),some (.int k)=>(valOf (ev2 av env x)).map fun a=> .wd (prP (cvI k a)) OE
   | some (.slice e),some .string=>match C.P.underlying e,ev2 av env x with
     | some (.int .u8), .o y=>(DA ro ob y 1).map fun c=> .wd (prP (b2T c)) OE
     | _,_=>none
   | _,_=>none
 | .makeSlice t l c=>match C.P.underlying t with
   | some (.slice e)=>(IC C.P e).bind fun z=>(MF C.P 8 e).bind fun ks=>(zTs ks z.1).bind fun zt=>if 0<z.2.1&&0<z.2.2&&QZ ks z.2.1 then
     (valOf (ev2 av env l)).bind fun a=>(valOf (ev2 av env c)).map fun b=> .fr [] [] fun K=>mkW z.2.2 a b fun n=>K ((nk, .ls true (PO (AD n) zt))::ob) (nk+1) (.o (.t nk z.2.1)) else none
   | _=>none
 | .slice t x lo hi none=>match C.P.underlying t with
   | some .string=>(valOf (ev2 av env x)).bind fun a=>(cQ av env lo).bind fun l=>(cQ av env hi).map fun h=> .wd (prP (scS a l h)) OE
   | some (.slice e)=>(szT C.P e).bind fun sz=>match ev2 av env x with
     | .o y=>(H0 ro ob y).bind fun n=>(DA ro ob y (szE y)).bind fun _=>match Nat.beq (szE y) sz||isZ y with
       | true=>(cQ av env lo).bind fun l=>(cQ av env hi).map fun h=> .wd (fun K=>scW n l h fun a m=>K (two a m)) fun x=>LI y sz (dM x) (eD x)
       | false=>none
     | _=>none
   | _=>none
 | .fieldAddr t x i=>match C.P.underlying t with
   | some (.struct fields)=>(fields[i]?).bind fun f=>(szT C.P f.type).bind fun sz=>if sz=0 then none else match ev2 av env x with
     | .o y=>match SZ ro ob y with
       | true=>some (.ev (.o (vU y f.offset)))
       | false=>none
     | _=>none
   | _=>none
 | .indexAddr t x i=>match C.P.underlying t with
   | some (.slice e)=>(szT C.P e).bind fun sz=>match ev2 av env x with
     | .o y=>(H0 ro ob y).bind fun n=>match Nat.beq (szE y) sz with
       | true=>(valOf (ev2 av env i)).map fun a=> .wd (ixW n a) (VY y sz)
       | false=>none
     | _=>none
   | some (.array n e)=>(szT C.P e).bind fun sz=>match ev2 av env x with
     | .o (.p k off)=>match BT ob k with
       | some (.bx _)=>match Nat.beq sz 1 with
         | true=>(valOf (ev2 av env i)).map fun a=> .wd (ixW n a) (fun j=> .o (.a k off n j))
         | false=>none
       | _=>none
     | _=>none
   | _=>none
 | .index t x i=>match C.P.underlying t with
   | some .string=>(valOf (ev2 av env x)).bind fun a=>(valOf (ev2 av env i)).map fun b=> .wd (prP (ix a b)) OE
   | _=>none
 | .extract x i=>match ev2 av env x with
   | .u ys=>match Nat.blt i ys.length with
     | true=>some (.ev (exE (.u ys) i))
     | false=>none
   | _=>none
 | .call c=>match c.callee with
   | .value (.func f)=>match (C.P.funcs[f]?).bind (·.body) with
     | some _ => if ((C.P.funcs[f]?).map (·.name)).getD "" == "runtime.NumGoroutine" then none else (uY sgs f).bind fun g => gR C ro ob nk f g (c.args.toList.map (ev2 av env))
     | none=>none
   | .builtin .len=>match c.argTypes.toList,c.args.toList with
     | [t],[x]=>match C.P.underlying t with
       | some .string=>(valOf (ev2 av env x)).map fun a=> .wd (prP (lnS a)) OE
       | some (.slice _)=>match ev2 av env x with
         | .o y=>(H0 ro ob y).map fun n=> .ev (.o (.v (iv n)))
         | _=>none
       | _=>none
     | _,_=>none
   | .builtin .min=>match c.args.toList with
     | [x,y]=>(valOf (ev2 av env x)).bind fun a=>(valOf (ev2 av env y)).map fun b=> .wd (prP (mn a b)) OE
     | _=>none
   | .builtin .append=>match c.argTypes.toList,c.args.toList with
     | [t,u],[x,y]=>if t==u then match C.P.underlying t with
       | some (.slice e)=>(IC C.P e).bind fun z=>(MF C.P 8 e).bind fun ks=>if 0<z.2.1&&0<z.2.2&&QZ ks z.2.1 then match ev2 av env x,ev2 av env y with
         | .o a, .o b=>(OH ob z.2.1 a).bind fun p=>(H0 ro ob b).bind fun m=>(ZC ro p.2.2.1 ks b z.2.1).map fun q=>
           .fr p.2.2.2 [] fun K=>apW q.1 (bA ks) p.2.1 m z.2.2 (K ((nk, .ls true (p.1++q.1))::q.2) (nk+1) (.o (.t nk z.2.1)))
         | _,_=>none
        else none
       | _=>none
       else none
     | _,_=>none
   | _=>none
 | _=>none
def NV (dst:Option Tmp) (tag:Option (Nat×Bool)) (e:EV) (env:DR):DR:=match dst with
 | some d=>(d,tag,e)::env
 | none=>env
def noQ:EV→EV
 | .o (.q _)=> .o .w
 | e=>e
def qq:EV→EV
 | .o (.v x)=> .o (.q x)
 | .o (.q _)=> .o .w
 | e=>e
def NU:DR→Nat→Bool
 | [],_=>true
 | (_,some (g,_),_)::r,d=> !(Nat.beq g d)&&NU r d
 | (_,none,_)::r,d=>NU r d
def nP (dst:Option Tmp) (g:Option (Nat×Bool×Value)) (env:DR):Bool:=match dst with
 | none=>true
 | some d=>NU env d&&(match g with | some (t,_,_)=> !(Nat.beq t d) | none=>true)
def TE (g:Option (Nat×Bool×Value)) (r:R2) (dst:Option Tmp) (ob:Obs) (nk:Nat) (env:DR) (K:Obs→Nat→DR→Prop):Prop:=match nP dst g env with
 | false=>False
 | true=>match g with
   | none=>match r with
     | .ev e=>K ob nk (NV dst none e env)
     | .st _ ob' nk' e=>K ob' nk' (NV dst none e env)
     | .wd m mk=>m fun x=>K ob nk (NV dst none (mk x) env)
     | .fr _ kl m=>m fun ob' nk' e=>K ob' nk' (NV dst none e (H2 kl env))
     | .cr m sl rs=>m fun vs cs=>let q:=IF sl vs cs rs ob nk 0 0;K q.ob q.nk (NV dst none (PT q.ys) env)
   | some (t,w,gv)=>match r with
     | .ev e=>gE gv (K ob nk (NV dst (some (t,w)) (noQ e) env))
     | .wd m mk=>gP gv w m fun x=>K ob nk (NV dst (some (t,w)) (qq (mk x)) env)
     | .fr _ kl m=>gF gv w (m fun ob' nk' e=>K ob' nk' (NV dst (some (t,w)) (qq e) (H2 kl env))) (K ob nk (NV dst (some (t,w)) (.o (.q undef)) env))
     | .cr m sl rs=>match kP rs with
       | true=>gC gv w m fun vs cs=>let q:=IF sl vs cs rs ob nk 0 0;K q.ob q.nk (NV dst (some (t,w)) (noQ (PT q.ys)) env)
       | false=>False
     | _=>False
def CI:Value→Bool→Value→Value
 | .bool true,true,a=>a
 | .bool false,false,a=>a
 | _,_,_=>undef
def oR (env:DR):Nat→Nat→Option Value
 | 0,t=>valOf (tkE [] (lkE env t))
 | n+1,t=>match lkE env t with
   | (some (g,w), .o (.v a))=>(oR env n g).map fun gv=>CI gv w a
   | x=>valOf (tkE [] x)
def o9 (ops:Array Oper) (env:DR) (o:Oper):Option (Option (Nat×Bool×Value)×List (Nat×Bool)):=match o.guard with
 | none=>some (none,[])
 | some (j,want)=>(C6 ops j).bind fun t=>(oR env 6 t).map fun gv=>(some (t,want,gv),ZY env 6 t want)
def T5 (C:Ctx) (sgs:List (Nat×Sg)) (ro:List (List T)) (ops:Array Oper):List Oper→Obs→Nat→DR→(Obs→Nat→DR→Prop)→Prop
 | [],ob,nk,env,K=>K ob nk env
 | o::r,ob,nk,env,K=>match o9 ops env o with
   | none=>False
   | some g=>match op2 C sgs ro ob nk g.2 env o with
     | none=>False
     | some x=>TE g.1 x o.dst ob nk env fun ob' nk' env'=>T5 C sgs ro ops r ob' nk' env' K
def eZ:R2→List Nat
 | .ev _=>[]
 | .st aff _ _ _=>aff
 | .wd _ _=>[]
 | .fr aff _ _=>aff
 | .cr _ _ _=>[]
def KV (ro:List (List T)) (ob:Obs):E0→Bool
 | .p k _ | .a k _ _ _=>match AV ro ob k with
   | some (.bx _)=>true
   | _=>false
 | .e k _ _ | .s k _ _ _ _ | .t k _ | .n k _ _=>match AV ro ob k with
   | some (.ls _ _)=>true
   | _=>false
 | _=>false
def I2:E0→Bool
 | .w=>true
 | .p _ _=>true
 | .a _ _ _ _=>true
 | .t _ _=>true
 | .e _ [] _=>true
 | .s _ [] _ _ _=>true
 | .n _ [] _=>true
 | _=>false
def YV:E0→Bool
 | .v _=>true
 | .z=>true
 | _=>false
def nU (ro:List (List T)) (ob:Obs) (aff:List Nat):EV→Bool
 | .o x=>YV x||(match DX x with
   | [k]=>KV ro ob x&& !(aff.any (Nat.beq k))
   | _=>false)
 | _=>false
def mF (ro:List (List T)) (ob:Obs) (ids:List Nat):EV→Bool
 | .o x=>YV x||(match DX x with
   | [k]=>KV ro ob x&&ids.any (Nat.beq k)&&(I2 x||Nat.blt k ro.length)
   | _=>false)
 | _=>false
def YJ:Nat→List Nat
 | 0=>[]
 | n+1=>n::YJ n
def aM (ro:List (List T)) (ob:Obs) (aff:List Nat):List Nat:=(ob.map (·.1)++YJ ro.length).filter fun k=> !(aff.any (Nat.beq k))
def wOf (av:List (Nat×Bool)) (env:DR) (o:Oper):EV:=match o.op with
 | .load _ a=>ev2 av env a
 | .convert _ _ x=>ev2 av env x
 | _=> .o .w
def SY:R2→List Nat
 | .fr _ kl _=>kl
 | _=>[]
def M4 (kl:List Nat) (past:List (Nat×EV)):List (Nat×EV):=match kl with
 | []=>past
 | kl=>past.map fun x=>(x.1,H8 kl x.2)
inductive Knd where
 | rd | al | no | mu
def fL (C:Ctx) (o:Oper):Knd:=match o.op with
 | .load _ _=> .rd
 | .convert src _ _=>match C.P.underlying src with
   | some (.slice _)=> .rd
   | _=> .no
 | .alloc _ | .box _ _ | .buildSlice _ _ _ | .makeSlice _ _ _=> .al
 | .store _ _ _=> .mu
 | .call c=>match c.callee with
   | .value _=> .mu
   | .builtin .append=> .mu
   | _=> .no
 | _=> .no
def oT (dst:Option Tmp) (env:DR):EV:=match dst with
 | some d=>match (lkE env d).1 with
   | none=>(lkE env d).2
   | some _=> .o .w
 | none=> .o .w
def J3 (C:Ctx) (sgs:List (Nat×Sg)) (ro:List (List T)) (ops:Array Oper) (L:List Nat):Nat→List Oper→Obs→Nat→DR→List (Nat×EV)→List (Nat×List Nat)→(Obs→Nat→DR→Prop)→Prop
 | _,[],ob,nk,env,_,_,K=>K ob nk env
 | i,o::r,ob,nk,env,past,pend,K=>match o9 ops env o with
   | none=>False
   | some g=>match op2 C sgs ro ob nk g.2 env o with
     | none=>False
     | some x=>match fL C o with
       | .rd=>match (CV L i pend).all fun ids=>mF ro ob ids (wOf g.2 env o) with
         | true=>TE g.1 x o.dst ob nk env fun ob' nk' env'=>J3 C sgs ro ops L (i+1) r ob' nk' env' ((i,H8 (SY x) (wOf g.2 env o))::M4 (SY x) past) pend K
         | false=>False
       | .al=>TE g.1 x o.dst ob nk env fun ob' nk' env'=>J3 C sgs ro ops L (i+1) r ob' nk' env' ((i,oT o.dst env')::M4 (SY x) past) pend K
       | .no=>TE g.1 x o.dst ob nk env fun ob' nk' env'=>J3 C sgs ro ops L (i+1) r ob' nk' env' (M4 (SY x) past) pend K
       | .mu=>match MM C.P L i 0 ops.toList with
         | false=>TE g.1 x o.dst ob nk env fun ob' nk' env'=>J3 C sgs ro ops L (i+1) r ob' nk' env' (M4 (SY x) past) pend K
         | true=>match (CV L i past).all fun w=>nU ro ob (eZ x) w with
           | true=>TE g.1 x o.dst ob nk env fun ob' nk' env'=>J3 C sgs ro ops L (i+1) r ob' nk' env' (M4 (SY x) past) ((i,aM ro ob (eZ x))::pend) K
           | false=>False
inductive Rf where
 | f (k:Nat)
 | j (k:Nat)
inductive SH where
 | v
 | w
 | z
 | t (r:Rf) (e:Nat)
 | s (r:Rf) (d e:Nat)
 | n (r:Rf) (d e:Nat)
 | p (r:Rf) (off:Nat)
 | e (r:Rf) (d:Nat)
inductive JO where
 | ls
 | bx (cs:List SH)
structure JS where
 ts:List SH
 ps:List SH
 os:List JO
abbrev Jm:=List (Nat×Option Nat)
def FI:Jm→Nat→Option (Option Nat)
 | [],_=>none
 | (a,x)::r,k=>match Nat.beq a k with
   | true=>some x
   | false=>FI r k
def UR (nro:Nat) (m:Jm):Rf→Nat→Option Jm
 | .f a,k=>match Nat.beq a k&&Nat.blt a nro with
   | true=>some m
   | false=>none
 | .j a,k=>match FI m a with
   | none=>some ((a,some k)::m)
   | some (some k')=>match Nat.beq k k' with
     | true=>some m
     | false=>none
   | some none=>none
def ivs (l:List Nat):List Value:=l.map iv
def LA (nro:Nat):SH→E0→Jm→Option (List Value×Jm)
 | .v, .v a,m=>some ([a],m)
 | .w,_,m=>some ([],m)
 | .z, .z,m=>some ([],m)
 | .t (.j a) e, .z,m=>match FI m a,Nat.blt 0 e with
   | none,true=>some ([],(a,none)::m)
   | _,_=>none
 | .t r e, .t k e',m=>match Nat.beq e e' with
   | true=>(UR nro m r k).map fun m'=>([],m')
   | false=>none
 | .s r d e, .s k pre off n e',m=>match Nat.beq e e'&&Nat.beq pre.length d with
   | true=>(UR nro m r k).map fun m'=>(iv n::iv off::ivs pre,m')
   | false=>none
 | .n r d e, .n k pre e',m=>match Nat.beq e e'&&Nat.beq pre.length d with
   | true=>(UR nro m r k).map fun m'=>(ivs pre,m')
   | false=>none
 | .p r off, .p k off',m=>match Nat.beq off off' with
   | true=>(UR nro m r k).map fun m'=>([],m')
   | false=>none
 | .e r d, .e k pre off,m=>match Nat.beq pre.length d with
   | true=>(UR nro m r k).map fun m'=>(iv off::ivs pre,m')
   | false=>none
 | _,_,_=>none
def I4 (nro:Nat):List SH→List E0→Jm→Option (List Value×Jm)
 | [],[],m=>some ([],m)
 | h::r,x::xs,m=>(LA nro h x m).bind fun p=>(I4 nro r xs p.2).map fun q=>(p.1++q.1,q.2)
 | _,_,_=>none
def vK:EV→E0
 | .o x=>x
 | _=> .w
def ZZ (nro:Nat) (ob:Obs):List JO→Nat→Jm→Option (List Value×List (List T)×Jm)
 | [],_,m=>some ([],[],m)
 | .ls::r,a,m=>match FI m a with
   | some none=>(ZZ nro ob r (a+1) m).map fun q=>(q.1,[]::q.2.1,q.2.2)
   | some (some k)=>match BT ob k with
     | some (.ls true cs)=>(ZZ nro ob r (a+1) m).map fun q=>(q.1,cs::q.2.1,q.2.2)
     | _=>none
   | none=>none
 | .bx hs::r,a,m=>match FI m a with
   | some (some k)=>match BT ob k with
     | some (.bx xs)=>(I4 nro hs xs m).bind fun p=>(ZZ nro ob r (a+1) p.2).map fun q=>(p.1++q.1,q.2.1,q.2.2)
     | _=>none
   | _=>none
def jH:Jm→Bool
 | []=>true
 | (_,none)::r=>jH r
 | (_,some k)::r=> !(r.any fun x=>match x.2 with | some k'=>Nat.beq k k' | none=>false)&&jH r
def u6 (nro:Nat) (js:JS) (es:List E0) (ob:Obs):Option (List Value×List (List T)):=(I4 nro (js.ts++js.ps) es []).bind fun p=>(ZZ nro ob js.os 0 p.2).bind fun q=>match jH q.2.2&&q.2.2.all fun x=>Nat.blt x.1 js.os.length with
 | true=>some (p.1++q.1,q.2.1)
 | false=>none
def B6 (n0:Nat):Rf→Nat
 | .f k=>k
 | .j k=>n0+k
def XQ (xs:List Value):Nat→Nat→List Nat
 | 0,_=>[]
 | d+1,i=>AD (nx xs i)::XQ xs d (i+1)
def inS (n0:Nat) (xs:List Value) (i:Nat):SH→E0×Nat
 | .v=>(.v (nx xs i),i+1)
 | .w=>(.w,i)
 | .z=>(.z,i)
 | .t r e=>(.t (B6 n0 r) e,i)
 | .s r d e=>(.s (B6 n0 r) (XQ xs d (i+2)) (AD (nx xs (i+1))) (AD (nx xs i)) e,i+2+d)
 | .n r d e=>(.n (B6 n0 r) (XQ xs d i) e,i+d)
 | .p r off=>(.p (B6 n0 r) off,i)
 | .e r d=>(.e (B6 n0 r) (XQ xs d (i+1)) (AD (nx xs i)),i+1+d)
def LG (n0:Nat) (xs:List Value):Nat→List SH→List E0×Nat
 | i,[]=>([],i)
 | i,h::r=>let a:=inS n0 xs i h;let b:=LG n0 xs a.2 r;(a.1::b.1,b.2)
def inO (n0:Nat) (xs:List Value) (cs:List (List T)):List JO→Nat→Nat→Nat→Obs
 | [],_,_,_=>[]
 | .ls::r,a,i,j=>(n0+a, .ls true (nxc cs j))::inO n0 xs cs r (a+1) i (j+1)
 | .bx hs::r,a,i,j=>let b:=LG n0 xs i hs;(n0+a, .bx b.1)::inO n0 xs cs r (a+1) b.2 j
def S5:List Nat→List E0→DR
 | t::r,x::xs=>(t,none, .o x)::S5 r xs
 | _,_=>[]
structure S2 where
 ob:Obs
 nk:Nat
 env:DR
 pins:List E0
def inJ (js:JS) (L:List Nat) (n0:Nat) (xs:List Value) (cs:List (List T)):S2:=
 let a:=LG n0 xs 0 (js.ts++js.ps)
 ⟨inO n0 xs cs js.os 0 a.2 0,n0+js.os.length,S5 L (a.1.take L.length),a.1.drop L.length⟩
def aL (L:List Nat) (env:DR):List E0:=L.map fun t=>vK (tkE [] (lkE env t))
def l7:SH→Bool
 | .w=>true
 | .t _ _=>true
 | .p _ _=>true
 | _=>false
def lC (ro:List (List T)) (ob:Obs):SH→E0→E0
 | .s _ 0 e, .t k e'=>match DA ro ob (.t k e') e with
   | some cs=> .s k [] 0 (cnt e cs) e
   | none=> .t k e'
 | _,x=>x
def eK (ro:List (List T)) (ob:Obs):List SH→List E0→List E0
 | h::r,x::xs=>lC ro ob h x::eK ro ob r xs
 | _,xs=>xs
def meet (ro:List (List T)) (js:JS) (L:List Nat) (σ:S2) (j:J2):Prop:=match js.ps.all l7&&Nat.beq js.ts.length L.length with
 | true=>match u6 ro.length js (eK ro σ.ob js.ts (aL L σ.env)++σ.pins) σ.ob with
   | some (xs,cs)=>j xs cs
   | none=>False
 | false=>False
def mC:List (Nat×JS)→Nat→Option JS
 | [],_=>none
 | (a,m)::r,id=>match Nat.beq a id with
   | true=>some m
   | false=>mC r id
abbrev cL:=Ex→S2→Prop
def rB (id:Nat) (κ:cL):cL:=fun e=>match e with
 | .ext i=>match Nat.beq i id with
   | true=>κ .nor
   | false=>κ (.ext i)
 | .nor=>κ .nor
 | .rt=>κ .rt
def YC (f:S2→Prop) (κ:cL):cL:=fun e=>match e with
 | .nor=>f
 | .ext i=>κ (.ext i)
 | .rt=>κ .rt
def J5 (C:Ctx) (sgs:List (Nat×Sg)) (ro:List (List T)) (an:List (Nat×List Nat)) (js:List (Nat×JS)) (rm nt:Nat):Code→Nat→S2→Nat→List (Nat×Nat)→cL→Prop
 | .skip,_,σ,_,_,κ=>κ .nor σ
 | .region id ops false,_,σ,_,_,κ=>T5 C sgs ro ops ops.toList σ.ob σ.nk σ.env fun ob nk env=>κ .nor ⟨ob,nk,env,σ.pins⟩
 | .region id ops true,_,σ,_,_,κ=>match Z8 an id with
   | none=>False
   | some L=>match ND L ops 0 ops.toList with
     | true=>J3 C sgs ro ops L 0 ops.toList σ.ob σ.nk σ.env [] [] fun ob nk env=>κ .nor ⟨ob,nk,env,σ.pins⟩
     | false=>False
 | .seq a b,pos,σ,lo,exs,κ=>
   let lb:=live rm b lo exs
   match Nat.ble (ends a) 1 with
   | true=>J5 C sgs ro an js rm nt a (2*pos) σ lb exs (YC (fun σ'=>J5 C sgs ro an js rm nt b (2*pos+1) σ' lo exs κ) κ)
   | false=>match mC js pos with
     | none=>J5 C sgs ro an js rm nt a (2*pos) σ lb exs (YC (fun σ'=>J5 C sgs ro an js rm nt b (2*pos+1) ⟨σ'.ob,σ'.nk,S5 (bitsOf lb nt) (aL (bitsOf lb nt) σ'.env),σ'.pins⟩ lo exs κ) κ)
     | some J=>BK (fun xs cs=>J5 C sgs ro an js rm nt b (2*pos+1) (inJ J (bitsOf lb nt) σ.nk xs cs) lo exs κ) fun j=>
       J5 C sgs ro an js rm nt a (2*pos) σ lb exs (YC (fun σ'=>meet ro J (bitsOf lb nt) σ' j) κ)
 | .cond c x y,pos,σ,lo,exs,κ=>match valOf (ev2 [] σ.env c) with
   | some v=>AX v (J5 C sgs ro an js rm nt x (2*pos) σ lo exs κ) (J5 C sgs ro an js rm nt y (2*pos+1) σ lo exs κ)
   | none=>False
 | .block id c,pos,σ,lo,exs,κ=>J5 C sgs ro an js rm nt c (2*pos) σ lo ((id,lo)::exs) (rB id κ)
 | .loop c,pos,σ,_,exs,κ=>
   let ll:=live rm (.loop c) 0 exs
   match mC js pos with
   | none=>False
   | some J=>meet ro J (bitsOf ll nt) σ (BE fun self xs cs=>J5 C sgs ro an js rm nt c (2*pos) (inJ J (bitsOf ll nt) σ.nk xs cs) ll exs (YC (fun σ'=>meet ro J (bitsOf ll nt) σ' self) κ))
 | .exit id,_,σ,_,_,κ=>κ (.ext id) σ
 | .ret,_,σ,_,_,κ=>κ .rt σ
 | _,_,_,_,_,_=>False
structure In where
 xs:List E0
 ob:Obs
 nk:Nat
 i:Nat
 j:Nat
 rj:Nat
 sids:List (Nat×Nat)
 mp:List E0
def inC (vs:List Value) (cs:List (List T)):List CS→Obs→Nat→Nat→Nat→Nat→In
 | [],ob,nk,i,j,rj=>⟨[],ob,nk,i,j,rj,[],[]⟩
 | .v::r,ob,nk,i,j,rj=>let p:=inC vs cs r ob nk (i+1) j rj;⟨.v (nx vs i)::p.xs,p.ob,p.nk,p.i,p.j,p.rj,p.sids,p.mp⟩
 | .t e 0::r,ob,nk,i,j,rj=>let p:=inC vs cs r ob nk i (j+1) (rj+1);⟨.t rj e::p.xs,p.ob,p.nk,p.i,p.j,p.rj,(rj,e)::p.sids,p.mp⟩
 | .t e 1::r,ob,nk,i,j,rj=>let p:=inC vs cs r ((nk, .ls true (nxc cs j))::ob) (nk+1) i (j+1) rj;⟨.t nk e::p.xs,p.ob,p.nk,p.i,p.j,p.rj,(nk,e)::p.sids, .t nk e::p.mp⟩
 | .t e _::r,ob,nk,i,j,rj=>let p:=inC vs cs r ((nk, .ls true (nxc cs j))::ob) (nk+1) i (j+1) rj;⟨.t nk e::p.xs,p.ob,p.nk,p.i,p.j,p.rj,(nk,e)::p.sids,p.mp⟩
structure InP where
 es:List EV
 ob:Obs
 nk:Nat
 sids:List (Nat×Nat)
 bp:List E0
 mp:List E0
def inP (vs:List Value) (cs:List (List T)):List (Nat×List CS)→Obs→Nat→Nat→Nat→Nat→InP
 | [],ob,nk,i,j,rj=>⟨[],ob,nk,[],[],[]⟩
 | (w,k)::r,ob,nk,i,j,rj=>
   let p:=inC vs cs k ob nk i j rj
   match w with
   | 0=>let q:=inP vs cs r p.ob p.nk p.i p.j p.rj;⟨(match p.xs with | [x]=> .o x | _=> .o .w)::q.es,q.ob,q.nk,p.sids++q.sids,q.bp,p.mp++q.mp⟩
   | 1=>let q:=inP vs cs r p.ob p.nk p.i p.j p.rj;⟨.g p.xs::q.es,q.ob,q.nk,p.sids++q.sids,q.bp,p.mp++q.mp⟩
   | _=>let q:=inP vs cs r ((p.nk, .bx p.xs)::p.ob) (p.nk+1) p.i p.j p.rj;⟨.o (.p p.nk 0)::q.es,q.ob,q.nk,p.sids++q.sids, .p p.nk 0::q.bp,p.mp++q.mp⟩
def RS:List CS→List (List T)→List (List T)
 | .v::r,cs=>RS r cs
 | .t _ 0::r,c::cs=>c::RS r cs
 | .t _ _::r,_::cs=>RS r cs
 | _,_=>[]
def iO:Nat→List EV→DR
 | _,[]=>[]
 | i,e::r=>(i,none,e)::iO (i+1) r
def K7 (nro:Nat) (sids:List (Nat×Nat)):List RC→List E0→Obs→Option (List Value×List (List T)×Obs)
 | [],[],ob=>some ([],[],ob)
 | .v::r, .v a::xs,ob=>(K7 nro sids r xs ob).map fun p=>(a::p.1,p.2.1,p.2.2)
 | .t e::r, .z::xs,ob=>(K7 nro sids r xs ob).map fun p=>(p.1,[]::p.2.1,p.2.2)
 | .t e::r, .t k e'::xs,ob=>match Nat.beq e e',BT ob k with
   | true,some (.ls true c)=>(K7 nro sids r xs (KY ob k)).map fun p=>(p.1,c::p.2.1,p.2.2)
   | _,_=>none
 | .t e::r, .s k [] off n e'::xs,ob=>match Nat.beq e e',BT ob k with
   | true,some (.ls true c)=>(K7 nro sids r xs (KY ob k)).map fun p=>(p.1,GB c [] off (n*e)::p.2.1,p.2.2)
   | _,_=>none
 | .a j::r, .t k e::xs,ob=>match Nat.beq k (sids.getD j (k+1,0)).1&&Nat.beq e (sids.getD j (k+1,0)).2&&Nat.blt k nro with
   | true=>K7 nro sids r xs ob
   | false=>none
 | _,_,_=>none
def tE (nro:Nat) (sids:List (Nat×Nat)) (w:Nat) (k:List RC) (e:EV) (ob:Obs):Option (List Value×List (List T)×Obs):=match w,e with
 | 0, .o x=>K7 nro sids k [x] ob
 | 1, .g xs=>K7 nro sids k xs ob
 | 2, .o (.p b 0)=>match BT ob b with
   | some (.bx xs)=>K7 nro sids k xs (KY ob b)
   | _=>none
 | _,_=>none
def dH (nro:Nat) (sids:List (Nat×Nat)):List (Nat×List RC)→List EV→Obs→Option (List Value×List (List T)×Obs)
 | [],[],ob=>some ([],[],ob)
 | (w,k)::r,e::es,ob=>(tE nro sids w k e ob).bind fun p=>(dH nro sids r es p.2.2).map fun q=>(p.1++q.1,p.2.1++q.2.1,q.2.2)
 | _,_,_=>none
def WT (nro:Nat) (sids:List (Nat×Nat)):List (List RC)→List E0→Obs→Option (List Value×List (List T)×Obs)
 | [],[],ob=>some ([],[],ob)
 | k::r, .p b 0::bs,ob=>match BT ob b with
   | some (.bx xs)=>(K7 nro sids k xs (KY ob b)).bind fun p=>(WT nro sids r bs p.2.2).map fun q=>(p.1++q.1,p.2.1++q.2.1,q.2.2)
   | _=>none
 | _,_,_=>none
def eI:List E0→Obs→Option (List (List T))
 | [],_=>some []
 | .t k e::r,ob=>match BT ob k with
   | some (.ls true c)=>(eI r (KY ob k)).map fun l=>c::l
   | _=>none
 | _,_=>none
def QV (σ:S2) (P:Program):List ResultVar→Option (List EV)
 | []=>some []
 | .tmp t::r=>(QV σ P r).map fun l=>tkE [] (lkE σ.env t)::l
 | .cell a t::r=>(szT P t).bind fun sz=>(WQ P t).bind fun ag=>match tkE [] (lkE σ.env a) with
   | .o (.p k off)=>match BT σ.ob k with
     | some (.bx xs)=>match Nat.beq ((xs.drop off).take sz).length sz&&Nat.blt 0 sz with
       | true=>match ag with
         | true=>(QV σ P r).map fun l=> .g ((xs.drop off).take sz)::l
         | false=>match (xs.drop off).take sz with
           | [x]=>(QV σ P r).map fun l=> .o x::l
           | _=>none
       | false=>none
     | _=>none
   | _=>none
def eQ (g:Sg):Bool:=(g.rs.any fun p=>p.2.any fun c=>match c with | .a _=>true | _=>false)||(g.bs.any fun p=>p.any fun c=>match c with | .a _=>true | _=>false)
def RU (nro:Nat) (x:Nat×Nat):E0:=match Nat.blt x.1 nro with
 | true=> .t x.1 x.2
 | false=> .w
def eqE:List E0→List E0→Bool
 | [],[]=>true
 | .t k e::r, .t k' e'::r'=>Nat.beq k k'&&Nat.beq e e'&&eqE r r'
 | .w::r, .w::r'=>eqE r r'
 | _,_=>false
def KO (g:Sg) (nro:Nat) (sids:List (Nat×Nat)):List E0:=match eQ g with
 | true=>sids.map (RU nro)
 | false=>[]
def qR (C:Ctx) (g:Sg) (nro:Nat) (ip:InP) (rs:List ResultVar) (σ:S2) (K:J2):Prop:=match QV σ C.P rs with
 | none=>False
 | some es=>match dH nro ip.sids g.rs es σ.ob with
   | none=>False
   | some p=>match WT nro ip.sids g.bs (σ.pins.take ip.bp.length) p.2.2 with
     | none=>False
     | some q=>match eI ((σ.pins.drop ip.bp.length).take ip.mp.length) q.2.2 with
       | none=>False
       | some l=>match eqE ((σ.pins.drop ip.bp.length).drop ip.mp.length) (KO g nro ip.sids) with
         | true=>K (p.1++q.1) (p.2.1++(q.2.1++l))
         | false=>False
def rO (C:Ctx) (sgs:List (Nat×Sg)) (an:List (Nat×List Nat)) (js:List (Nat×JS)) (fn:Func) (g:Sg) (vs:List Value) (cs:List (List T)) (K:J2):Prop:=match fn.body with
 | some c=>
   let ro:=RS (CH g.ps) cs
   let ip:=inP vs cs g.ps [] ro.length 0 0 0
   match nL g&&g.ps.all fun p=>Nat.ble p.1 2 with
   | true=>J5 C sgs ro an js (jO fn.results.toList) fn.ntmps c 1 ⟨ip.ob,ip.nk,iO 0 ip.es,ip.bp++(ip.mp++KO g ro.length ip.sids)⟩ (jO fn.results.toList) [] fun e σ=>match e with
     | .ext _=>False
     | .nor=>qR C g ro.length ip fn.results.toList σ K
     | .rt=>qR C g ro.length ip fn.results.toList σ K
   | false=>False
 | none=>False
end Go.Proofs.Ytklmcfpgdfibnaa.Eng
namespace Go.Proofs.Ytklmcfpgdfibnaa.Eng
open Go Go.RowKit
set_option linter.unusedVariables false
set_option linter.unusedSimpArgs false
structure Asg where
 nil:Bool
 h:Nat
 b:Nat
 F:List Nat
structure Bas where
 s:St
 M:List Nat
structure Mst where
 s:St
 ob:Obs
 nk:Nat
 A:Nat→Asg
def one:Value→Bool
 | .pointer _=>true
 | .slice _ _ _=>true
 | _=>false
def E0R (ro:List (List T)) (m:Mst):E0→Value→Prop
 | .v a,u=>u=a∧plain a=true
 | .q a,u=>u=a
 | .z,u=>u=nl
 | .p k off,u=>k<m.nk∧one u=true∧ ∀xs,AV ro m.ob k=some (.bx xs)→u=pt (m.A k).h off
 | .e k pre off,u=>k<m.nk∧one u=true∧ ∀own cs,AV ro m.ob k=some (.ls own cs)→ ∃ds h b,node cs pre=some ds∧(m.A k).nil=false∧spot m.s (m.A k).h (m.A k).b pre=some (h,b)∧u=pt h (b+off)
 | .s k pre off n e,u=>k<m.nk∧one u=true∧ ∀own cs,AV ro m.ob k=some (.ls own cs)→(u=nl∧n=0)∨ ∃ds h b,node cs pre=some ds∧off+n*e≤ds.length∧(m.A k).nil=false∧spot m.s (m.A k).h (m.A k).b pre=some (h,b)∧u=sl h (b+off) n e
 | .t k e,u=>k<m.nk∧one u=true∧0<e∧ ∀own cs,AV ro m.ob k=some (.ls own cs)→(u=nl∧(m.A k).nil=true)∨ ∃n,(m.A k).nil=false∧cs.length=n*e∧u=sl (m.A k).h (m.A k).b n e
 | .n k pre e,u=>k<m.nk∧one u=true∧0<e∧ ∀own cs,AV ro m.ob k=some (.ls own cs)→ ∃ds,node cs pre=some ds∧((u=nl∧ds=[])∨ ∃n h b,(m.A k).nil=false∧spot m.s (m.A k).h (m.A k).b pre=some (h,b)∧ds.length=n*e∧u=sl h b n e)
 | .a k off n j,u=>k<m.nk∧one u=true∧ ∃i,j=iv i∧i<n∧ ∀xs,AV ro m.ob k=some (.bx xs)→u=pt (m.A k).h (off+i)
 | .w,_=>True
def CO (R:E0→Value→Prop):List E0→List Value→Prop
 | [],[]=>True
 | x::xs,u::us=>R x u∧CO R xs us
 | _,_=>False
def YR (R:E0→Value→Prop) (y:Bool×List E0) (u:Value):Prop:=match y.1 with
 | true=> ∃us:List Value,u= .agg us.toArray∧CO R y.2 us
 | false=> ∃x,y.2=[x]∧R x u
def jN (R:E0→Value→Prop):List (Bool×List E0)→List Value→Prop
 | [],[]=>True
 | x::xs,u::us=>YR R x u∧jN R xs us
 | _,_=>False
def EVR (R:E0→Value→Prop):EV→Value→Prop
 | .o x,u=>R x u
 | .g xs,u=> ∃us:List Value,u= .agg us.toArray∧CO R xs us
 | .u ys,u=> ∃us:List Value,u= .tuple us.toArray∧jN R ys us
def UP (R:E0→Value→Prop) (env1:Env) (x:Option (Nat×Bool)×EV) (u:Value):Prop:=match x.1 with
 | none=>EVR R x.2 u
 | some (g,w)=>(lk env1 g= .bool w→EVR R (upg x.2) u)∧(∀a,x.2= .o (.q a)→u=a)∧(lk env1 g= .bool w∨u=undef)
def HS (ro:List (List T)) (m:Mst) (env:DR) (env1:Env):Prop:= ∀t,UP (E0R ro m) env1 (lkE env t) (lk env1 t)
def ObR (ro:List (List T)) (m:Mst) (k:Nat):Ob2→Prop
 | .ls own cs=>((m.A k).nil=true∧cs=[]∧(m.A k).F=[])∨((m.A k).nil=false∧Win m.s own cs (m.A k).h (m.A k).b (m.A k).F)
 | .bx xs=>(m.A k).F=[(m.A k).h]∧ ∃us,m.s.get (m.A k).h=some ⟨us,true⟩∧CO (E0R ro m) xs us
def FL:Ob2→Bool
 | .bx _=>true
 | .ls o _=>o
structure KOk (ro:List (List T)) (ob:Obs) (nk:Nat):Prop where
 nd:(ob.map (·.1)).Nodup
 lt: ∀x∈ob,ro.length≤x.1∧x.1<nk
 ro:ro.length≤nk
structure Mem (B:Bas) (ro:List (List T)) (m:Mst):Prop where
 kok:KOk ro m.ob m.nk
 obr: ∀k o,AV ro m.ob k=some o→ObR ro m k o
 own: ∀k o,AV ro m.ob k=some o→FL o=true→(m.A k).F.Nodup∧ ∀h∈(m.A k).F,h∈B.M∨B.s.n≤h
 dis: ∀k k' o o',k≠k'→AV ro m.ob k=some o→AV ro m.ob k'=some o'→FL o=true→ ∀h∈(m.A k).F,h∉(m.A k').F
 frn:B.s.n≤m.s.n
 fr: ∀h,h<B.s.n→h∉B.M→m.s.get h=B.s.get h
theorem LM {ro:List (List T)}: ∀{k:Nat} {o:Ob2},PJ ro k=some o→k<ro.length∧ ∃cs,o= .ls false cs:=by
 induction ro with
 | nil=>intro k o h;simp [PJ] at h
 | cons c r ih=>
   intro k o h
   cases k with
   | zero=>simp only [PJ,Option.some.injEq] at h;exact ⟨by simp,c,h.symm⟩
   | succ k=>simp only [PJ] at h;have:=ih h;exact ⟨by simp;exact this.1,this.2⟩
theorem HO: ∀{ob:Obs} {k:Nat} {o:Ob2},BT ob k=some o→(k,o)∈ob
 | [],k,o,h=>by simp [BT] at h
 | (a,x)::r,k,o,h=>by
   simp only [BT] at h
   split at h
   ·rename_i hb;have:=Nat.eq_of_beq_eq_true hb;subst this;cases h;simp
   ·exact List.mem_cons_of_mem _ (HO h)
theorem U6 {ob:Obs} {k:Nat} (h: ∀x∈ob,x.1≠k):BT ob k=none:=by
 cases hl:BT ob k with
 | none=>rfl
 | some o=>exact absurd rfl (h _ (HO hl))
theorem NY {ro:List (List T)} {ob:Obs} {nk k:Nat} {o:Ob2} (hk:KOk ro ob nk) (h:AV ro ob k=some o):k<nk:=by
 unfold AV at h
 split at h
 ·rename_i hl;exact (hk.lt _ (HO hl)).2
 ·exact Nat.lt_of_lt_of_le (LM h).1 hk.ro
theorem BV {ro:List (List T)} {ob:Obs} {k:Nat} {o:Ob2} (h:BT ob k=some o):AV ro ob k=some o:=by simp [AV,h]
theorem OY {ro:List (List T)} {ob:Obs} {k:Nat} {o:Ob2} (h:AV ro ob k=some o) (ho:FL o=true):BT ob k=some o:=by
 unfold AV at h
 split at h
 ·rename_i hl;rw [hl];exact h
 ·obtain ⟨_,cs,rfl⟩:=LM h;cases ho
theorem KR {ro:List (List T)} {ob:Obs} {nk k:Nat} (hk:KOk ro ob nk) (h:k<ro.length):AV ro ob k=PJ ro k:=by
 unfold AV
 rw [U6 fun x hx=>by have:=(hk.lt x hx).1;omega]
theorem CG {ob:Obs} {a k:Nat} {o:Ob2}:BT ((a,o)::ob) k=if a=k then some o else BT ob k:=by
 simp only [BT]
 split
 ·rename_i hb;rw [if_pos (Nat.eq_of_beq_eq_true hb)]
 ·rename_i hb;rw [if_neg];intro h;subst h;simp at hb
theorem FZ {ro:List (List T)} {ob:Obs} {a k:Nat} {o:Ob2}:AV ro ((a,o)::ob) k=if a=k then some o else AV ro ob k:=by
 unfold AV;rw [CG]
 by_cases h:a=k
 ·simp [h]
 ·simp [h]
theorem KM: ∀{ob:Obs} {k k':Nat} {o:Ob2},BT (GC ob k o) k'=if k=k' then (BT ob k).map (fun _=>o) else BT ob k'
 | [],k,k',o=>by simp [GC,BT]
 | (a,x)::r,k,k',o=>by
   simp only [GC]
   split
   ·rename_i hb
    have:=Nat.eq_of_beq_eq_true hb;subst this
    rw [CG,CG,CG];by_cases h:a=k' <;> simp [h]
   ·rename_i hb
    have hne:a≠k:=fun h=>by subst h;simp at hb
    rw [CG,CG,CG,KM]
    by_cases h:a=k'
    ·subst h;simp [Ne.symm hne]
    ·simp [h,hne]
theorem VA: ∀{ob:Obs} {k:Nat} {o:Ob2},(GC ob k o).map (·.1)=ob.map (·.1)
 | [],k,o=>rfl
 | (a,x)::r,k,o=>by
   simp only [GC]
   split
   ·rfl
   ·simp [VA]
theorem RD: ∀{ob:Obs} {k k':Nat},k≠k'→BT (KY ob k) k'=BT ob k'
 | [],k,k',h=>rfl
 | (a,x)::r,k,k',h=>by
   simp only [KY]
   split
   ·rename_i hb
    have:=Nat.eq_of_beq_eq_true hb;subst this
    rw [CG,if_neg h]
   ·rw [CG,CG,RD h]
theorem YI: ∀{ob:Obs} {k:Nat},(KY ob k).Sublist ob
 | [],k=>List.Sublist.refl _
 | (a,x)::r,k=>by
   simp only [KY]
   split
   ·exact List.sublist_cons_self _ _
   ·exact List.Sublist.cons_cons _ YI
theorem XS: ∀{ob:Obs} {k:Nat},(ob.map (·.1)).Nodup→BT (KY ob k) k=none
 | [],k,h=>rfl
 | (a,x)::r,k,h=>by
   simp only [List.map_cons,List.nodup_cons] at h
   simp only [KY]
   split
   ·rename_i hb
    have:=Nat.eq_of_beq_eq_true hb;subst this
    exact U6 fun y hy he=>h.1 (List.mem_map.2 ⟨y,hy,he⟩)
   ·rename_i hb
    have hne:a≠k:=fun h=>by subst h;simp at hb
    rw [CG,if_neg hne,XS h.2]
theorem KOk.del {ro:List (List T)} {ob:Obs} {nk k:Nat} (h:KOk ro ob nk):KOk ro (KY ob k) nk:=
 ⟨(YI.map _).nodup h.nd,fun x hx=>h.lt x (YI.subset hx),h.ro⟩
theorem KOk.set {ro:List (List T)} {ob:Obs} {nk k:Nat} {o:Ob2} (h:KOk ro ob nk):KOk ro (GC ob k o) nk:=by
 refine ⟨by rw [VA];exact h.nd,fun x hx=> ?_,h.ro⟩
 have:x.1∈(GC ob k o).map (·.1):=List.mem_map.2 ⟨x,hx,rfl⟩
 rw [VA] at this
 obtain ⟨y,hy,he⟩:=List.mem_map.1 this
 rw [←he];exact h.lt y hy
theorem KOk.cons {ro:List (List T)} {ob:Obs} {nk:Nat} {o:Ob2} (h:KOk ro ob nk):KOk ro ((nk,o)::ob) (nk+1):=by
 refine ⟨?_,fun x hx=> ?_,by have:=h.ro;omega⟩
 ·simp only [List.map_cons,List.nodup_cons]
  exact ⟨fun hm=>by obtain ⟨y,hy,he⟩:=List.mem_map.1 hm;have:=(h.lt y hy).2;omega,h.nd⟩
 ·rcases List.mem_cons.1 hx with rfl | hx
  ·exact ⟨h.ro,by simp⟩
  ·have:=h.lt x hx;exact ⟨this.1,by omega⟩
theorem KOk.le {ro:List (List T)} {ob:Obs} {nk nk':Nat} (h:KOk ro ob nk) (hle:nk≤nk'):KOk ro ob nk':=⟨h.nd,fun x hx=>⟨(h.lt x hx).1,Nat.lt_of_lt_of_le (h.lt x hx).2 hle⟩,Nat.le_trans h.ro hle⟩
def HY (kl:List Nat):Ob2→Ob2
 | .bx xs=> .bx (xs.map (C4 kl))
 | o=>o
theorem QJ {kl:List Nat}: ∀{ob:Obs} {k:Nat},BT (EB kl ob) k=(BT ob k).map (HY kl)
 | [],k=>rfl
 | (a, .bx xs)::r,k=>by
   simp only [EB];rw [CG,CG,QJ]
   by_cases h:a=k <;> simp [h,HY]
 | (a, .ls o cs)::r,k=>by
   simp only [EB];rw [CG,CG,QJ]
   by_cases h:a=k <;> simp [h,HY]
theorem PA {kl:List Nat}: ∀{ob:Obs},(EB kl ob).map (·.1)=ob.map (·.1)
 | []=>rfl
 | (a, .bx xs)::r=>by simp [EB,PA]
 | (a, .ls o cs)::r=>by simp [EB,PA]
theorem H6 {ro:List (List T)} {kl:List Nat} {ob:Obs} {k:Nat}:AV ro (EB kl ob) k=(AV ro ob k).map (HY kl):=by
 unfold AV
 rw [QJ]
 cases h:BT ob k with
 | some o=>rfl
 | none=>
   cases h2:PJ ro k with
   | none=>simp [h2]
   | some o=>obtain ⟨_,cs,rfl⟩:=LM h2;simp [h2,HY]
theorem KOk.kill {ro:List (List T)} {ob:Obs} {nk:Nat} {kl:List Nat} (h:KOk ro ob nk):KOk ro (EB kl ob) nk:=by
 refine ⟨by rw [PA];exact h.nd,fun x hx=> ?_,h.ro⟩
 have:x.1∈(EB kl ob).map (·.1):=List.mem_map.2 ⟨x,hx,rfl⟩
 rw [PA] at this
 obtain ⟨y,hy,he⟩:=List.mem_map.1 this
 rw [←he];exact h.lt y hy
def Kp0 (ro:List (List T)) (m m':Mst) (k:Nat):Prop:= ∀o',AV ro m'.ob k=some o'→match o' with
 | .bx _=>(∃xs,AV ro m.ob k=some (.bx xs))∧(m'.A k).h=(m.A k).h
 | .ls _ cs'=> ∃own cs,AV ro m.ob k=some (.ls own cs)∧cs'.length=cs.length∧(m'.A k).nil=(m.A k).nil∧(m'.A k).h=(m.A k).h∧(m'.A k).b=(m.A k).b
def Deep (ro:List (List T)) (m m':Mst) (k:Nat):Prop:= ∀own cs own' cs',AV ro m.ob k=some (.ls own cs)→AV ro m'.ob k=some (.ls own' cs')→
    (∀pre ds,node cs pre=some ds→ ∃ds',node cs' pre=some ds'∧ds'.length=ds.length)∧
    ((m.A k).nil=false→ ∀pre ds hb,node cs pre=some ds→spot m.s (m.A k).h (m.A k).b pre=some hb→spot m'.s (m.A k).h (m.A k).b pre=some hb)
structure Kp (ro:List (List T)) (m m':Mst) (kl:List Nat):Prop where
 nk:m.nk≤m'.nk
 k0: ∀k,k<m.nk→Kp0 ro m m' k
 dp: ∀k,k<m.nk→kl.any (Nat.beq k)=false→Deep ro m m' k
theorem Kp.flat {ro:List (List T)} {m m':Mst} {kl:List Nat} (h:Kp ro m m' kl) {k off n e:Nat} {u:Value} (hr:E0R ro m (.s k [] off n e) u):E0R ro m' (.s k [] off n e) u:=by
 obtain ⟨hlt,hone,hr⟩:=hr
 refine ⟨Nat.lt_of_lt_of_le hlt h.nk,hone,fun own' cs' hl'=> ?_⟩
 obtain ⟨own,cs,hl,he,h1,h2,h3⟩:=h.k0 k hlt _ hl'
 rcases hr own cs hl with hr | ⟨ds,x,b,k1,k2,k3,k4,rfl⟩
 ·exact .inl hr
 ·simp only [node,Option.some.injEq] at k1
  subst k1
  simp only [spot,Option.some.injEq,Prod.mk.injEq] at k4
  obtain ⟨rfl,rfl⟩:=k4
  exact .inr ⟨cs',_,_,rfl,by omega,by rw [h1,k3],rfl,by rw [h2,h3]⟩
theorem Kp.e0 {ro:List (List T)} {m m':Mst} {kl:List Nat} (h:Kp ro m m' kl) {x:E0} {u:Value} (hr:E0R ro m x u):E0R ro m' (C4 kl x) u:=by
 cases x with
 | v a=>exact hr
 | q a=>exact hr
 | z=>exact hr
 | w=>trivial
 | p k off=>
   obtain ⟨hlt,hone,hr⟩:=hr
   refine ⟨Nat.lt_of_lt_of_le hlt h.nk,hone,fun xs hl'=> ?_⟩
   obtain ⟨⟨ys,hl⟩,he⟩:=h.k0 k hlt _ hl'
   rw [he];exact hr ys hl
 | a k off n j=>
   obtain ⟨hlt,hone,i,hj,hi,hr⟩:=hr
   refine ⟨Nat.lt_of_lt_of_le hlt h.nk,hone,i,hj,hi,fun xs hl'=> ?_⟩
   obtain ⟨⟨ys,hl⟩,he⟩:=h.k0 k hlt _ hl'
   rw [he];exact hr ys hl
 | t k e=>
   obtain ⟨hlt,hone,hpos,hr⟩:=hr
   refine ⟨Nat.lt_of_lt_of_le hlt h.nk,hone,hpos,fun own' cs' hl'=> ?_⟩
   obtain ⟨own,cs,hl,he,h1,h2,h3⟩:=h.k0 k hlt _ hl'
   rw [h1,h2,h3,he];exact hr own cs hl
 | s k pre off n e=>
   cases pre with
   | nil=>exact h.flat hr
   | cons i r=>
     simp only [C4]
     cases ha:kl.any (Nat.beq k) with
     | true=>trivial
     | false=>
       obtain ⟨hlt,hone,hr⟩:=hr
       refine ⟨Nat.lt_of_lt_of_le hlt h.nk,hone,fun own' cs' hl'=> ?_⟩
       obtain ⟨own,cs,hl,he,h1,h2,h3⟩:=h.k0 k hlt _ hl'
       rcases hr own cs hl with hr | ⟨ds,x,b,k1,k2,k3,k4,rfl⟩
       ·exact .inl hr
       ·obtain ⟨k8,k9⟩:=h.dp k hlt ha own cs own' cs' hl hl'
        obtain ⟨ds',k5,k6⟩:=k8 _ _ k1
        have k7:=k9 k3 _ _ _ k1 k4
        exact .inr ⟨ds',x,b,k5,by omega,by rw [h1,k3],by rw [h2,h3];exact k7,rfl⟩
 | e k pre off=>
   cases pre with
   | nil=>
     obtain ⟨hlt,hone,hr⟩:=hr
     refine ⟨Nat.lt_of_lt_of_le hlt h.nk,hone,fun own' cs' hl'=> ?_⟩
     obtain ⟨own,cs,hl,he,h1,h2,h3⟩:=h.k0 k hlt _ hl'
     obtain ⟨ds,x,b,k1,k3,k4,rfl⟩:=hr own cs hl
     simp only [spot,Option.some.injEq,Prod.mk.injEq] at k4
     obtain ⟨rfl,rfl⟩:=k4
     exact ⟨cs',_,_,rfl,by rw [h1,k3],rfl,by rw [h2,h3]⟩
   | cons i r=>
     simp only [C4]
     cases ha:kl.any (Nat.beq k) with
     | true=>trivial
     | false=>
       obtain ⟨hlt,hone,hr⟩:=hr
       refine ⟨Nat.lt_of_lt_of_le hlt h.nk,hone,fun own' cs' hl'=> ?_⟩
       obtain ⟨own,cs,hl,he,h1,h2,h3⟩:=h.k0 k hlt _ hl'
       obtain ⟨ds,x,b,k1,k3,k4,rfl⟩:=hr own cs hl
       obtain ⟨k8,k9⟩:=h.dp k hlt ha own cs own' cs' hl hl'
       obtain ⟨ds',k5,k6⟩:=k8 _ _ k1
       have k7:=k9 k3 _ _ _ k1 k4
       exact ⟨ds',x,b,k5,by rw [h1,k3],by rw [h2,h3];exact k7,rfl⟩
 | n k pre e=>
   cases pre with
   | nil=>
     obtain ⟨hlt,hone,hpos,hr⟩:=hr
     refine ⟨Nat.lt_of_lt_of_le hlt h.nk,hone,hpos,fun own' cs' hl'=> ?_⟩
     obtain ⟨own,cs,hl,he,h1,h2,h3⟩:=h.k0 k hlt _ hl'
     obtain ⟨ds,k1,hr⟩:=hr own cs hl
     simp only [node,Option.some.injEq] at k1
     subst k1
     refine ⟨cs',rfl, ?_⟩
     rcases hr with ⟨k2,k3⟩ | ⟨n,x,b,k3,k4,k5,rfl⟩
     ·left
      subst k3
      exact ⟨k2,List.eq_nil_of_length_eq_zero (by rw [he];rfl)⟩
     ·simp only [spot,Option.some.injEq,Prod.mk.injEq] at k4
      obtain ⟨rfl,rfl⟩:=k4
      exact .inr ⟨n,_,_,by rw [h1,k3],rfl,by rw [he,k5],by rw [h2,h3]⟩
   | cons i r=>
     simp only [C4]
     cases ha:kl.any (Nat.beq k) with
     | true=>trivial
     | false=>
       obtain ⟨hlt,hone,hpos,hr⟩:=hr
       refine ⟨Nat.lt_of_lt_of_le hlt h.nk,hone,hpos,fun own' cs' hl'=> ?_⟩
       obtain ⟨own,cs,hl,he,h1,h2,h3⟩:=h.k0 k hlt _ hl'
       obtain ⟨ds,k1,hr⟩:=hr own cs hl
       obtain ⟨k8,k9⟩:=h.dp k hlt ha own cs own' cs' hl hl'
       obtain ⟨ds',k5,k6⟩:=k8 _ _ k1
       refine ⟨ds',k5, ?_⟩
       rcases hr with ⟨k2,k3⟩ | ⟨n,x,b,k3,k4,k10,rfl⟩
       ·left
        subst k3
        exact ⟨k2,List.eq_nil_of_length_eq_zero (by rw [k6];rfl)⟩
       ·have k7:=k9 k3 _ _ _ k1 k4
        exact .inr ⟨n,x,b,by rw [h1,k3],by rw [h2,h3];exact k7,by rw [k6,k10],rfl⟩
theorem HD {R R':E0→Value→Prop} {f:E0→E0} (h: ∀x u,R x u→R' (f x) u): ∀{xs:List E0} {us:List Value},CO R xs us→CO R' (xs.map f) us
 | [],[],_=>trivial
 | x::xs,u::us,hr=>⟨h x u hr.1,HD h hr.2⟩
 | [],_::_,hr=>hr.elim
 | _::_,[],hr=>hr.elim
theorem F6 {R:E0→Value→Prop}: ∀{xs:List E0} {us:List Value},CO R xs us→us.length=xs.length
 | [],[],_=>rfl
 | x::xs,u::us,hr=>by simp [F6 hr.2]
 | [],_::_,hr=>hr.elim
 | _::_,[],hr=>hr.elim
theorem GW {R:E0→Value→Prop}: ∀{xs ys:List E0} {us vs:List Value},CO R xs us→CO R ys vs→CO R (xs++ys) (us++vs)
 | [],ys,[],vs,_,h=>h
 | x::xs,ys,u::us,vs,h,h2=>⟨h.1,GW h.2 h2⟩
 | [],_,_::_,_,hr,_=>hr.elim
 | _::_,_,[],_,hr,_=>hr.elim
theorem I7 {R:E0→Value→Prop}: ∀{xs:List E0} {us:List Value} (n:Nat),CO R xs us→CO R (xs.take n) (us.take n)
 | [],[],n,_=>by simp [CO]
 | x::xs,u::us,0,h=>trivial
 | x::xs,u::us,n+1,h=>⟨h.1,I7 n h.2⟩
 | [],_::_,_,hr=>hr.elim
 | _::_,[],_,hr=>hr.elim
theorem JM {R:E0→Value→Prop}: ∀{xs:List E0} {us:List Value} (n:Nat),CO R xs us→CO R (xs.drop n) (us.drop n)
 | [],[],n,_=>by simp [CO]
 | x::xs,u::us,0,h=>h
 | x::xs,u::us,n+1,h=>JM n h.2
 | [],_::_,_,hr=>hr.elim
 | _::_,[],_,hr=>hr.elim
theorem b7 {R R':E0→Value→Prop} {f:E0→E0} (h: ∀x u,R x u→R' (f x) u): ∀{xs:List (Bool×List E0)} {us:List Value},jN R xs us→jN R' (xs.map fun y=>(y.1,y.2.map f)) us
 | [],[],_=>trivial
 | x::xs,u::us,hr=>by
   refine ⟨?_,b7 h hr.2⟩
   have h1:=hr.1
   unfold YR at h1 ⊢
   cases hb:x.1 with
   | true=>rw [hb] at h1;obtain ⟨vs,hv,ha⟩:=h1;exact ⟨vs,hv,HD h ha⟩
   | false=>rw [hb] at h1;obtain ⟨y,hy,ha⟩:=h1;exact ⟨f y,by simp [hy],h _ _ ha⟩
 | [],_::_,hr=>hr.elim
 | _::_,[],hr=>hr.elim
theorem Kp.ev {ro:List (List T)} {m m':Mst} {kl:List Nat} (h:Kp ro m m' kl) {x:EV} {u:Value} (hr:EVR (E0R ro m) x u):EVR (E0R ro m') (H8 kl x) u:=by
 cases x with
 | o x=>exact h.e0 hr
 | g xs=>obtain ⟨us,hu,ha⟩:=hr;exact ⟨us,hu,HD (f:=C4 kl) (fun x u hx=>h.e0 hx) ha⟩
 | u ys=>obtain ⟨us,hu,ha⟩:=hr;exact ⟨us,hu,b7 (f:=C4 kl) (fun x u hx=>h.e0 hx) ha⟩
theorem nQ {kl:List Nat} {x:EV}:upg (H8 kl x)=H8 kl (upg x):=by
 cases x with
 | o x=>
   cases x <;> try rfl
   ·rename_i k pre off
    cases pre with
    | nil=>rfl
    | cons i r=>simp only [H8,C4,upg];cases kl.any (Nat.beq k) <;> rfl
   ·rename_i k pre off n e
    cases pre with
    | nil=>rfl
    | cons i r=>simp only [H8,C4,upg];cases kl.any (Nat.beq k) <;> rfl
   ·rename_i k pre e
    cases pre with
    | nil=>rfl
    | cons i r=>simp only [H8,C4,upg];cases kl.any (Nat.beq k) <;> rfl
 | g xs=>rfl
 | u ys=>rfl
theorem sQ {kl:List Nat} {x:EV} {a:Value} (h:H8 kl x= .o (.q a)):x= .o (.q a):=by
 cases x with
 | o x=>
   cases x <;> simp only [H8,C4,EV.o.injEq,E0.q.injEq,reduceCtorEq] at h
   ·rw [h]
   ·rename_i k pre off
    cases pre with
    | nil=>simp [C4] at h
    | cons i r=>simp only [C4] at h;cases ha:kl.any (Nat.beq k) <;> rw [ha] at h <;> simp at h
   ·rename_i k pre off n e
    cases pre with
    | nil=>simp [C4] at h
    | cons i r=>simp only [C4] at h;cases ha:kl.any (Nat.beq k) <;> rw [ha] at h <;> simp at h
   ·rename_i k pre e
    cases pre with
    | nil=>simp [C4] at h
    | cons i r=>simp only [C4] at h;cases ha:kl.any (Nat.beq k) <;> rw [ha] at h <;> simp at h
 | g xs=>simp [H8] at h
 | u ys=>simp [H8] at h
theorem IB {x:E0}:C4 [] x=x:=by
 cases x <;> try rfl
 ·rename_i k pre off;cases pre <;> rfl
 ·rename_i k pre off n e;cases pre <;> rfl
 ·rename_i k pre e;cases pre <;> rfl
theorem XU {x:EV}:H8 [] x=x:=by
 have hf:C4 []=id:=funext fun _=>IB
 cases x with
 | o x=>simp [H8,IB]
 | g xs=>simp [H8,hf]
 | u ys=>simp [H8,hf]
theorem lW {kl:List Nat}: ∀{env:DR} {t:Nat},lkE (H2 kl env) t=((lkE env t).1,H8 kl (lkE env t).2):=by
 intro env t
 cases kl with
 | nil=>simp [H2,XU]
 | cons a l=>
   simp only [H2]
   induction env with
   | nil=>rfl
   | cons x r ih=>
     obtain ⟨d,tg,e⟩:=x
     simp only [List.map_cons,lkE]
     cases hb:Nat.beq d t with
     | true=>rfl
     | false=>exact ih
theorem Kp.env {ro:List (List T)} {m m':Mst} {kl:List Nat} (h:Kp ro m m' kl) {env:DR} {env1:Env} (hr:HS ro m env env1):HS ro m' (H2 kl env) env1:=by
 intro t
 have:=hr t
 rw [lW]
 unfold UP at this ⊢
 cases hx:(lkE env t).1 with
 | none=>rw [hx] at this;exact h.ev this
 | some gw=>
   obtain ⟨g,w⟩:=gw
   rw [hx] at this
   exact ⟨fun hg=>by rw [nQ];exact h.ev (this.1 hg),fun a ha=>this.2.1 a (sQ ha),this.2.2⟩
theorem ObR.lt {ro:List (List T)} {m:Mst} {k:Nat} {o:Ob2} (h:ObR ro m k o): ∀x∈(m.A k).F,x<m.s.n:=by
 cases o with
 | ls own cs=>
   rcases h with ⟨_,_,h⟩ | ⟨_,h⟩
   ·rw [h];simp
   ·exact h.lt
 | bx xs=>
   obtain ⟨hF,us,hg,_⟩:=h
   rw [hF]
   intro x hx
   rw [List.mem_singleton.1 hx];exact St.FK hg
structure Step (B:Bas) (ro:List (List T)) (m m':Mst) (kl:List Nat) (U:Nat→Prop):Prop where
 n:m.s.n≤m'.s.n
 nk:m.nk≤m'.nk
 kok:KOk ro m'.ob m'.nk
 u: ∀k,U k→ ∃o,AV ro m.ob k=some o∧AV ro m'.ob k=some (HY kl o)∧m'.A k=m.A k
 fr: ∀h,h<m.s.n→(∀k o,AV ro m.ob k=some o→ ¬U k→FL o=true→h∉(m.A k).F)→m'.s.get h=m.s.get h
  /-- the others -/
 k0: ∀k,k<m.nk→ ¬U k→Kp0 ro m m' k
 dp: ∀k,k<m.nk→ ¬U k→kl.any (Nat.beq k)=false→Deep ro m m' k
 own: ∀k o',AV ro m'.ob k=some o'→ ¬U k→(m'.A k).F.Nodup∧ ∀h∈(m'.A k).F,(∃k1 o1,AV ro m.ob k1=some o1∧ ¬U k1∧FL o1=true∧h∈(m.A k1).F)∨m.s.n≤h
 dis: ∀k k' o o',k≠k'→AV ro m'.ob k=some o→AV ro m'.ob k'=some o'→ ¬U k→ ¬U k'→ ∀h∈(m'.A k).F,h∉(m'.A k').F
theorem Step.same {B:Bas} {ro:List (List T)} {m m':Mst} {kl:List Nat} {U:Nat→Prop} (h:Step B ro m m' kl U) (hm:Mem B ro m) {k:Nat} (hk:U k): ∀x∈(m.A k).F,m'.s.get x=m.s.get x:=by
 intro x hx
 obtain ⟨o,h1,_⟩:=h.u k hk
 refine h.fr x ((hm.obr k o h1).lt x hx) fun k1 o1 k2 k3 k4 hx'=> ?_
 have hne:k1≠k:=fun he=>k3 (he ▸ hk)
 exact hm.dis k1 k o1 o hne k2 h1 k4 x hx' hx
theorem Step.kp {B:Bas} {ro:List (List T)} {m m':Mst} {kl:List Nat} {U:Nat→Prop} (h:Step B ro m m' kl U) (hm:Mem B ro m):Kp ro m m' kl:=by
 refine ⟨h.nk,fun k hk=> ?_,fun k hk ha=> ?_⟩
 ·by_cases hu:U k
  ·obtain ⟨o,h1,h2,h3⟩:=h.u k hu
   intro o' ho'
   rw [h2] at ho';cases ho'
   cases o with
   | bx xs=>exact ⟨⟨xs,h1⟩,by rw [h3]⟩
   | ls own cs=>exact ⟨own,cs,h1,rfl,by rw [h3],by rw [h3],by rw [h3]⟩
  ·exact h.k0 k hk hu
 ·by_cases hu:U k
  ·intro own cs own' cs' hl hl'
   obtain ⟨o,h1,h2,h3⟩:=h.u k hu
   rw [hl] at h1;cases h1
   rw [hl'] at h2;cases h2
   refine ⟨fun pre ds hn=>⟨ds,hn,rfl⟩,fun hnil pre ds hb hn hs=> ?_⟩
   rcases hm.obr k _ hl with ⟨h4,_⟩ | ⟨_,hw⟩
   ·rw [hnil] at h4;cases h4
   ·rw [UN hw (h.same hm hu) (by rw [hn];rfl)];exact hs
  ·exact h.dp k hk hu ha
theorem Step.mem {B:Bas} {ro:List (List T)} {m m':Mst} {kl:List Nat} {U:Nat→Prop} (h:Step B ro m m' kl U) (hm:Mem B ro m) (hob: ∀k o',AV ro m'.ob k=some o'→ ¬U k→ObR ro m' k o'):Mem B ro m':=by
 have hkp:=h.kp hm
 have hBm: ∀k o,AV ro m.ob k=some o→FL o=true→ ∀x∈(m.A k).F,x∈B.M∨B.s.n≤x:=fun k o h1 h2=>(hm.own k o h1 h2).2
 have ownB: ∀(o:Ob2),FL (HY kl o)=FL o:=fun o=>by cases o <;> rfl
 refine ⟨h.kok,fun k o' ho'=> ?_,fun k o' ho' how=> ?_,fun k k' o o' hne ho ho' how x hx hx'=> ?_,Nat.le_trans hm.frn h.n,fun x hx hM=> ?_⟩
 ·by_cases hu:U k
  ·obtain ⟨o,h1,h2,h3⟩:=h.u k hu
   rw [h2] at ho';cases ho'
   have hs:=h.same hm hu
   have ho:=hm.obr k o h1
   cases o with
   | ls own cs=>
     rcases ho with ⟨a,b,c⟩ | ⟨a,b⟩
     ·exact .inl ⟨by rw [h3,a],b,by rw [h3,c]⟩
     ·exact .inr ⟨by rw [h3,a],by rw [h3];exact b.frame hs⟩
   | bx xs=>
     obtain ⟨hF,us,hg,ha⟩:=ho
     exact ⟨by rw [h3,hF],us,by rw [h3,hs _ (by rw [hF];simp)];exact hg,HD (f:=C4 kl) (fun x u hx=>hkp.e0 hx) ha⟩
  ·exact hob k o' ho' hu
 ·by_cases hu:U k
  ·obtain ⟨o,h1,h2,h3⟩:=h.u k hu
   rw [h2] at ho';cases ho'
   rw [h3];exact hm.own k o h1 (by rw [←ownB];exact how)
  ·refine ⟨(h.own k o' ho' hu).1,fun x hx=> ?_⟩
   rcases (h.own k o' ho' hu).2 x hx with ⟨k1,o1,a,b,c,d⟩ | hge
   ·exact hBm k1 o1 a c x d
   ·right;have:=hm.frn;omega
 ·by_cases hu:U k
  ·obtain ⟨o1,h1,h2,h3⟩:=h.u k hu
   rw [h2] at ho;cases ho
   rw [h3] at hx
   by_cases hu':U k'
   ·obtain ⟨o2,g1,g2,g3⟩:=h.u k' hu'
    rw [g3] at hx'
    exact hm.dis k k' o1 o2 hne h1 g1 (by rw [←ownB];exact how) x hx hx'
   ·rcases (h.own k' o' ho' hu').2 x hx' with ⟨k2,o2,a,b,c,d⟩ | hge
    ·exact hm.dis k k2 o1 o2 (fun he=>b (he ▸ hu)) h1 a (by rw [←ownB];exact how) x hx d
    ·have:=(hm.obr k o1 h1).lt x hx;omega
  ·by_cases hu':U k'
   ·obtain ⟨o2,g1,g2,g3⟩:=h.u k' hu'
    rw [g3] at hx'
    rcases (h.own k o ho hu).2 x hx with ⟨k2,o3,a,b,c,d⟩ | hge
    ·exact hm.dis k2 k' o3 o2 (fun he=>b (he ▸ hu')) a g1 c x d hx'
    ·have:=(hm.obr k' o2 g1).lt x hx';omega
   ·exact h.dis k k' o o' hne ho ho' hu hu' x hx hx'
 ·rw [h.fr x (by have:=hm.frn;omega) fun k o a b c d=> ?_]
  ·exact hm.fr x hx hM
  ·rcases hBm k o a c x d with h1 | h1
   ·exact hM h1
   ·omega
end Go.Proofs.Ytklmcfpgdfibnaa.Eng
namespace Go.Proofs.Ytklmcfpgdfibnaa.Eng
open Go Go.RowKit
set_option linter.unusedVariables false
set_option linter.unusedSimpArgs false
structure Out (C:Ctx) (B:Bas) (ro:List (List T)) (m:Mst) (aff kl:List Nat) (st:Stp) (v:Value) (e:EV) (m':Mst):Prop where
 goes:B9 C st m.s v m'.s
 mem:Mem B ro m'
 kp:Kp ro m m' kl
 ev:EVR (E0R ro m') e v
 afr: ∀k o,AV ro m.ob k=some o→aff.any (Nat.beq k)=false→ ∀h∈(m.A k).F,m'.s.get h=m.s.get h
 n:m.s.n≤m'.s.n
 agr: ∀k,k<ro.length→m'.A k=m.A k
def R2S (C:Ctx) (B:Bas) (ro:List (List T)) (m:Mst) (st:Stp):R2→Prop
 | .ev e=> ∃v,Out C B ro m [] [] st v e m
 | .st aff ob nk e=> ∃v s' A',Out C B ro m aff [] st v e ⟨s',ob,nk,A'⟩
 | .wd w mk=>(∀x y,mk x= .o (.v y)→y=x)∧ ∀K:Value→Prop,w K→ ∃x v s',K x∧Out C B ro m [] [] st v (mk x) ⟨s',m.ob,m.nk,m.A⟩
 | .fr aff kl w=> ∀K:Obs→Nat→EV→Prop,w K→ ∃ob nk e v s' A',K ob nk e∧Out C B ro m aff kl st v e ⟨s',ob,nk,A'⟩
 | .cr w sl rs=> ∀K:Obs→Nat→EV→Prop,(w fun vs cs=>K (IF sl vs cs rs m.ob m.nk 0 0).ob (IF sl vs cs rs m.ob m.nk 0 0).nk (PT (IF sl vs cs rs m.ob m.nk 0 0).ys))→ ∃ob nk e v s' A',K ob nk e∧Out C B ro m [] [] st v e ⟨s',ob,nk,A'⟩
theorem Kp.refl {ro:List (List T)} {m:Mst} {kl:List Nat}:Kp ro m m kl:=by
 refine ⟨Nat.le_refl _,fun k _ o' ho=> ?_,fun k _ _ own cs own' cs' h1 h2=> ?_⟩
 ·cases o' with
  | bx xs=>exact ⟨⟨xs,ho⟩,rfl⟩
  | ls own cs=>exact ⟨own,cs,ho,rfl,rfl,rfl,rfl⟩
 ·rw [h1] at h2;cases h2;exact ⟨fun pre ds h3=>⟨ds,h3,rfl⟩,fun _ pre ds hb _ h4=>h4⟩
theorem Out.same {C:Ctx} {B:Bas} {ro:List (List T)} {m:Mst} {st:Stp} {v:Value} {e:EV} (hm:Mem B ro m) (hg:B9 C st m.s v m.s) (he:EVR (E0R ro m) e v):Out C B ro m [] [] st v e m:=
 ⟨hg,hm,Kp.refl,he,fun _ _ _ _ _ _=>rfl,Nat.le_refl _,fun _ _=>rfl⟩
theorem R2S.pure {C:Ctx} {B:Bas} {ro:List (List T)} {m:Mst} {r r':Option Value} (hm:Mem B ro m) (hr:r'=r):R2S C B ro m (.pure r') (.wd (prP r) OE):=by
 subst hr
 refine ⟨fun x y h=>by cases h;rfl, ?_⟩
 rintro K ⟨v,h1,h2,h3⟩
 exact ⟨v,v,m.s,h3,Out.same hm ⟨h1,rfl⟩ ⟨rfl,h2⟩⟩
def WX (env1:Env) (av:List (Nat×Bool)):Prop:= ∀g w,PM av g w=true→lk env1 g= .bool w
theorem sF {ro:List (List T)} {m:Mst} {v:Value} (h:I1 v=true):E0R ro m (cE0 v) v:=by
 cases v <;> try (simp [I1] at h)
 ·exact ⟨rfl,rfl⟩
 ·exact ⟨rfl,rfl⟩
 ·exact ⟨rfl,rfl⟩
 ·trivial
 ·rename_i a n c
  cases a with
  | some a=>simp [I1] at h
  | none=>
    cases n with
    | succ n=>simp [I1] at h
    | zero=>cases c with
      | succ c=>simp [I1] at h
      | zero=>rfl
theorem LX {ro:List (List T)} {m:Mst}: ∀{l:List Value},l.all I1=true→CO (E0R ro m) (l.map cE0) l
 | [],_=>trivial
 | v::l,h=>by
   simp only [List.all_cons,Bool.and_eq_true] at h
   exact ⟨sF h.1,LX h.2⟩
theorem W8 {ro:List (List T)} {m:Mst} (v:Value):EVR (E0R ro m) (dS v) (UI v):=by
 cases v <;> try (first | exact ⟨rfl,rfl⟩ | trivial)
 ·rename_i a n c
  cases a with
  | some a=>trivial
  | none=>cases n with
    | succ n=>trivial
    | zero=>cases c with
      | succ c=>trivial
      | zero=>rfl
 ·rename_i cs
  simp only [dS,UI]
  cases h:cs.toList.all I1 with
  | true=>simp only [if_true];exact ⟨cs.toList,rfl,LX h⟩
  | false=>trivial
theorem m5 {ro:List (List T)} {m:Mst} {x:EV} {u:Value} (h: ∀a,x= .o (.q a)→u=a):EVR (E0R ro m) (dng x) u:=by
 cases x with
 | o x=>cases x <;> first | exact h _ rfl | trivial
 | g xs=>trivial
 | u ys=>trivial
theorem XP {ro:List (List T)} {m:Mst} {env1:Env} {av:List (Nat×Bool)} {x:Option (Nat×Bool)×EV} {u:Value} (ha:WX env1 av) (h:UP (E0R ro m) env1 x u):EVR (E0R ro m) (tkE av x) u:=by
 obtain ⟨tg,e⟩:=x
 cases tg with
 | none=>exact h
 | some gw=>
   obtain ⟨g,w⟩:=gw
   simp only [tkE]
   cases hmm:PM av g w with
   | true=>exact h.1 (ha g w hmm)
   | false=>exact m5 h.2.1
theorem GH {ro:List (List T)} {m:Mst} {env:DR} {env1:Env} {av:List (Nat×Bool)} (hE:HS ro m env env1) (ha:WX env1 av) (x:Operand):EVR (E0R ro m) (ev2 av env x) (ev env1 x):=by
 cases x with
 | tmp t=>
   have:=hE t
   exact XP ha this
 | const v=>exact W8 v
 | _=>trivial
theorem eB {ro:List (List T)} {m:Mst} {e:EV} {u a:Value} (h:valOf e=some a) (hr:EVR (E0R ro m) e u):u=a:=by
 cases e with
 | o x=>cases x <;> simp [valOf] at h
        ·subst h;exact hr.1
        ·subst h;exact hr
 | g xs=>simp [valOf] at h
 | u ys=>simp [valOf] at h
theorem FD {ro:List (List T)} {m:Mst} {env:DR} {env1:Env} {av:List (Nat×Bool)} (hE:HS ro m env env1) (ha:WX env1 av) {x:Operand} {a:Value} (h:valOf (ev2 av env x)=some a):ev env1 x=a:=eB h (GH hE ha x)
theorem SM {u:Value} (h:plain u=true):vok u=true∧cellsOf u=[u]:=by
 cases u <;> simp [plain] at h <;> exact ⟨rfl,rfl⟩
theorem OZ {u:Value} (h:one u=true):vok u=true∧cellsOf u=[u]:=by
 cases u <;> simp [one] at h <;> exact ⟨rfl,rfl⟩
theorem mL {ro:List (List T)} {m:Mst} {x:E0} {u:Value} (h:oH x=true) (hr:E0R ro m x u):vok u=true∧cellsOf u=[u]:=by
 cases x <;> simp [oH] at h
 ·rw [hr.1];exact SM hr.2
 ·have:u=nl:=hr
  rw [this];exact ⟨rfl,rfl⟩
 ·exact OZ hr.2.1
 ·exact OZ hr.2.1
 ·exact OZ hr.2.1
 ·exact OZ hr.2.1
 ·exact OZ hr.2.1
 ·exact OZ hr.2.1
theorem ML {ro:List (List T)} {m:Mst} {e:EV} {u:Value} {xs:List E0} (h:NM e=some xs) (hr:EVR (E0R ro m) e u):vok u=true∧CO (E0R ro m) xs (cellsOf u):=by
 cases e with
 | o x=>
   simp only [NM] at h
   split at h
   ·rename_i hg
    cases h
    obtain ⟨h1,h2⟩:=mL hg hr
    exact ⟨h1,by rw [h2];exact ⟨hr,trivial⟩⟩
   ·cases h
 | g xs=>
   simp only [NM] at h
   split at h
   ·cases h
    obtain ⟨us,rfl,ha⟩:=hr
    exact ⟨rfl,ha⟩
   ·cases h
 | u ys=>simp [NM] at h
theorem jT {ro:List (List T)} {ob:Obs} {nk k k':Nat} {o:Ob2} (hk:KOk ro ob nk) (hl:BT ob k=some o):AV ro (KY ob k) k'=if k=k' then none else AV ro ob k':=by
 by_cases h:k=k'
 ·subst h
  rw [if_pos rfl]
  unfold AV
  rw [XS hk.nd]
  have:=(hk.lt _ (HO hl)).1
  cases h2:PJ ro k with
  | none=>rfl
  | some o=>have:=(LM h2).1;simp at*;omega
 ·rw [if_neg h];unfold AV;rw [RD h]
structure FU (ro:List (List T)) (ob ob1:Obs) (nk:Nat) (dl:List Nat):Prop where
 kok:KOk ro ob1 nk
 look: ∀k,AV ro ob1 k=if k∈dl then none else AV ro ob k
 own: ∀k∈dl, ∃o,AV ro ob k=some o∧FL o=true
theorem FU.nil {ro:List (List T)} {ob:Obs} {nk:Nat} (h:KOk ro ob nk):FU ro ob ob nk []:=⟨h,fun k=>by simp,fun k hk=>by simp at hk⟩
theorem FU.del {ro:List (List T)} {ob ob1:Obs} {nk k:Nat} {dl:List Nat} {o:Ob2} (h:FU ro ob ob1 nk dl) (hl:BT ob1 k=some o) (ho:FL o=true):FU ro ob (KY ob1 k) nk (k::dl):=by
 have hk2:=BV (ro:=ro) hl
 rw [h.look] at hk2
 split at hk2
 ·cases hk2
 ·refine ⟨h.kok.del,fun k'=> ?_,fun k' hk'=> ?_⟩
  ·rw [jT h.kok hl,h.look]
   by_cases e:k=k'
   ·subst e;simp
   ·rw [if_neg e]
    have:k'∈k::dl↔k'∈dl:=by simp [Ne.symm e]
    simp only [this]
  ·rcases List.mem_cons.1 hk' with rfl | hk'
   ·exact ⟨o,hk2,ho⟩
   ·exact h.own k' hk'
def I5 (A:Nat→Asg) (k:Nat) (a:Asg):Nat→Asg:=fun x=>if x=k then a else A x
theorem LV {A:Nat→Asg} {k x:Nat} {a:Asg} (h:x≠k):I5 A k a x=A x:=if_neg h
theorem B5 {A:Nat→Asg} {k:Nat} {a:Asg}:I5 A k a k=a:=if_pos rfl
theorem Step.new {B:Bas} {ro:List (List T)} {m:Mst} {ob1:Obs} {dl:List Nat} {o:Ob2} {a:Asg} {s':St} (hm:Mem B ro m) (hg:FU ro m.ob ob1 m.nk dl) (hn:m.s.n≤s'.n)
  (hfr: ∀h,h<m.s.n→(∀k∈dl,h∉(m.A k).F)→s'.get h=m.s.get h) (hnd:a.F.Nodup) (hF: ∀h∈a.F,(∃k∈dl,h∈(m.A k).F)∨m.s.n≤h):
  Step B ro m ⟨s',(m.nk,o)::ob1,m.nk+1,I5 m.A m.nk a⟩ [] (fun k=>k∉dl∧ ∃o,AV ro m.ob k=some o):=by
 have hlt: ∀k o,AV ro m.ob k=some o→k<m.nk:=fun k o h=>NY hm.kok h
 have hnew: ∀k,AV ro ((m.nk,o)::ob1) k=if m.nk=k then some o else if k∈dl then none else AV ro m.ob k:=fun k=>by rw [FZ,hg.look]
 have hnot: ∀k,k<m.nk→ ¬(k∉dl∧ ∃o,AV ro m.ob k=some o)→AV ro ((m.nk,o)::ob1) k=none:=by
  intro k hk hu
  rw [hnew,if_neg (by omega)]
  by_cases hd:k∈dl
  ·rw [if_pos hd]
  ·rw [if_neg hd]
   cases hl:AV ro m.ob k with
   | none=>rfl
   | some o=>exact absurd ⟨hd,o,hl⟩ hu
 have hkey: ∀k o',AV ro ((m.nk,o)::ob1) k=some o'→ ¬(k∉dl∧ ∃o,AV ro m.ob k=some o)→k=m.nk:=by
  intro k o' hk hu
  rw [hnew] at hk
  by_cases e:m.nk=k
  ·exact e.symm
  ·rw [if_neg e] at hk
   by_cases hd:k∈dl
   ·rw [if_pos hd] at hk;cases hk
   ·rw [if_neg hd] at hk;exact absurd ⟨hd,_,hk⟩ hu
 refine ⟨hn,Nat.le_succ _,hg.kok.cons,fun k hu=> ?_,fun h hh hx=>hfr h hh fun k hk=> ?_,fun k hk hu=> ?_,fun k hk hu _=> ?_,fun k o' ho hu=> ?_,fun k k' o1 o2 hne h1 h2 u1 u2=> ?_⟩
 ·obtain ⟨hd,o',ho⟩:=hu
  have hk:=hlt k o' ho
  refine ⟨o',ho, ?_,LV (by omega)⟩
  rw [hnew,if_neg (by omega),if_neg hd,ho]
  cases o' with
  | bx xs=>
    have hf:C4 []=id:=funext fun _=>IB
    simp [HY,hf]
  | ls _ _=>rfl
 ·obtain ⟨o',ho,how⟩:=hg.own k hk
  exact hx k o' ho (fun hu=>hu.1 hk) how
 ·intro o' ho'
  rw [hnot k hk hu] at ho';cases ho'
 ·intro own cs own' cs' _ h2
  rw [hnot k hk hu] at h2;cases h2
 ·have hk:=hkey k o' ho hu
  subst hk
  simp only [B5]
  refine ⟨hnd,fun h hh=> ?_⟩
  rcases hF h hh with ⟨k1,hk1,hx⟩ | hx
  ·obtain ⟨o1,ho1,how⟩:=hg.own k1 hk1
   exact .inl ⟨k1,o1,ho1,fun hu=>hu.1 hk1,how,hx⟩
  ·exact .inr hx
 ·have a1:=hkey k o1 h1 u1
  have a2:=hkey k' o2 h2 u2
  omega
theorem T2 {C:Ctx} {B:Bas} {ro:List (List T)} {m:Mst} {ob1:Obs} {dl aff:List Nat} {o:Ob2} {a:Asg} {s':St} {st:Stp} {v:Value} {e:EV} (hm:Mem B ro m) (hg:FU ro m.ob ob1 m.nk dl) (hn:m.s.n≤s'.n)
  (hfr: ∀h,h<m.s.n→(∀k∈dl,h∉(m.A k).F)→s'.get h=m.s.get h) (hnd:a.F.Nodup) (hF: ∀h∈a.F,(∃k∈dl,h∈(m.A k).F)∨m.s.n≤h)
  (hgo:B9 C st m.s v s') (hob:Kp ro m ⟨s',(m.nk,o)::ob1,m.nk+1,I5 m.A m.nk a⟩ []→ObR ro ⟨s',(m.nk,o)::ob1,m.nk+1,I5 m.A m.nk a⟩ m.nk o)
  (hev:EVR (E0R ro ⟨s',(m.nk,o)::ob1,m.nk+1,I5 m.A m.nk a⟩) e v) (haf: ∀k o,AV ro m.ob k=some o→aff.any (Nat.beq k)=false→ ∀h∈(m.A k).F,s'.get h=m.s.get h):
  Out C B ro m aff [] st v e ⟨s',(m.nk,o)::ob1,m.nk+1,I5 m.A m.nk a⟩:=by
 have hst:=Step.new (o:=o) (B:=B) hm hg hn hfr hnd hF
 have hkp:=hst.kp hm
 refine ⟨hgo,hst.mem hm fun k o' ho hu=> ?_,hkp,hev,haf,hn,fun k hk=>LV (by have:=hm.kok.ro;omega)⟩
 have hnew:k=m.nk:=by
  have h2:=ho
  simp only [FZ,hg.look] at h2
  by_cases e:m.nk=k
  ·exact e.symm
  ·rw [if_neg e] at h2
   by_cases hd:k∈dl
   ·rw [if_pos hd] at h2;cases h2
   ·rw [if_neg hd] at h2;exact absurd ⟨hd,_,h2⟩ hu
 subst hnew
 have:o'=o:=by
  have h2:=ho
  simp only [FZ,if_true] at h2
  exact (Option.some.inj h2).symm
 subst this
 exact hob hkp
theorem LR {s:St} {ob:Ob} {h:Nat} (hh:h<s.n):(s.push ob).get h=s.get h:=by rw [St.II,if_neg (by omega)]
theorem LZ {s:St} {ob:Ob}:(s.push ob).get s.n=some ob:=by rw [St.II,if_pos rfl]
theorem gL {C:Ctx} {B:Bas} {ro:List (List T)} {m:Mst} {xs:List E0} {us:List Value} {st:Stp} (hm:Mem B ro m) (hx:CO (E0R ro m) xs us) (hgo:B9 C st m.s (pt m.s.n 0) (m.s.push ⟨us,true⟩)):
  Out C B ro m [] [] st (pt m.s.n 0) (.o (.p m.nk 0)) ⟨m.s.push ⟨us,true⟩,(m.nk, .bx xs)::m.ob,m.nk+1,I5 m.A m.nk ⟨false,m.s.n,0,[m.s.n]⟩⟩:=by
 refine T2 hm (FU.nil hm.kok) (by rw [St.G3];omega) (fun h hh _=>LR hh) (by simp) (fun h hh=> .inr (by simp at hh;omega)) hgo (fun hkp=> ?_) ?_ (fun k o ho _ h hh=>LR ((hm.obr k o ho).lt h hh))
 ·refine ⟨by simp [B5],us,by simp only [B5];exact LZ, ?_⟩
  have hf:C4 []=id:=funext fun _=>IB
  have:=HD (f:=C4 []) (fun x u hx=>hkp.e0 hx) hx
  rwa [hf,List.map_id] at this
 ·exact ⟨Nat.lt_succ_self _,rfl,fun xs _=>by simp only [B5]⟩
end Go.Proofs.Ytklmcfpgdfibnaa.Eng
namespace Go.Proofs.Ytklmcfpgdfibnaa.Eng
open Go Go.RowKit
set_option linter.unusedVariables false
set_option linter.unusedSimpArgs false
theorem SA {e n:Nat} {cs:List T} (he:0<e) (h:cs.length=n*e):cnt e cs=n:=by
 unfold cnt
 split
 ·rw [h,Nat.mul_one]
 ·rw [h,Nat.mul_div_cancel _ he]
structure dI (m:Mst) (k:Option Nat) (e n:Nat) (c:List T) (u:Value):Prop where
 len:c.length=n*e
 at_:(u=nl∧n=0∧c=[])∨ ∃h b F own,u=sl h b n e∧Win m.s own c h b F∧ ∃k',k=some k'∧F.Sublist (m.A k').F
def NR:E0→Option Nat
 | .t k _=>some k
 | .s k _ _ _ _=>some k
 | .n k _ _=>some k
 | _=>none
theorem Mem.node {B:Bas} {ro:List (List T)} {m:Mst} (hm:Mem B ro m) {k:Nat} {own:Bool} {cs ds:List T} {pre:List Nat} {h b:Nat} (hl:AV ro m.ob k=some (.ls own cs)) (hnil:(m.A k).nil=false) (hn:Eng.node cs pre=some ds)
  (hs:spot m.s (m.A k).h (m.A k).b pre=some (h,b)): ∃F,Win m.s own ds h b F∧F.Sublist (m.A k).F:=by
 rcases hm.obr k _ hl with ⟨h1,_⟩ | ⟨_,hw⟩
 ·rw [hnil] at h1;cases h1
 ·rcases hw.node hn with ⟨_,_,h3⟩ | ⟨h',b',F',h1,h2,h3⟩
  ·rw [h3] at hs;cases hs
  ·rw [h1] at hs;cases hs;exact ⟨F',h2,h3⟩
theorem JN {B:Bas} {ro:List (List T)} {m:Mst} (hm:Mem B ro m) {x:E0} {e n:Nat} {c:List T} {u:Value} (hr:E0R ro m x u) (hc:DA ro m.ob x e=some c) (hn:H0 ro m.ob x=some n):dI m (NR x) e n c u:=by
 cases x with
 | z=>
   simp only [DA,H0,Option.some.injEq] at hc hn
   subst hc;subst hn
   exact ⟨by simp, .inl ⟨hr,rfl,rfl⟩⟩
 | t k e'=>
   simp only [DA,H0] at hc hn
   split at hc
   ·rename_i hb
    have:=Nat.eq_of_beq_eq_true hb;subst this
    split at hc
    ·rename_i own cs hl
     rw [hl] at hn
     simp only [Option.some.injEq] at hc hn
     subst hc;subst hn
     obtain ⟨hlt,hone,hpos,hr⟩:=hr
     rcases hr own cs hl with ⟨rfl,hnil⟩ | ⟨n',hnil,hlen,rfl⟩
     ·have:cs=[]:=by
       rcases hm.obr k _ hl with ⟨_,h2,_⟩ | ⟨h2,_⟩
       ·exact h2
       ·rw [hnil] at h2;cases h2
      subst this
      have h0:cnt e ([]:List T)=0:=SA (n:=0) hpos (by simp)
      exact ⟨by rw [h0];simp, .inl ⟨rfl,h0,rfl⟩⟩
     ·have h0:=SA hpos hlen
      refine ⟨by rw [h0];exact hlen, .inr ?_⟩
      obtain ⟨F,hw,hF⟩:=hm.node hl hnil (pre:=[]) rfl rfl
      exact ⟨_,_,F,own,by rw [h0],hw,k,rfl,hF⟩
    ·cases hc
   ·cases hc
 | s k pre off n' e'=>
   simp only [DA,H0] at hc hn
   split at hc
   ·rename_i hb
    have:=Nat.eq_of_beq_eq_true hb;subst this
    split at hc
    ·rename_i own cs hl
     rw [hl] at hn
     simp only [Option.some.injEq] at hc hn
     subst hc;subst hn
     obtain ⟨hlt,hone,hr⟩:=hr
     rcases hr own cs hl with ⟨rfl,rfl⟩ | ⟨ds,h,b,h1,h2,h3,h4,rfl⟩
     ·have:GB cs pre off (0*e)=[]:=by
       unfold GB;split <;> simp
      rw [this];exact ⟨by simp, .inl ⟨rfl,rfl,rfl⟩⟩
     ·have hsub:GB cs pre off (n'*e)=(ds.drop off).take (n'*e):=by unfold GB;rw [h1]
      obtain ⟨F,hw,hF⟩:=hm.node hl h3 h1 h4
      obtain ⟨F',hw',hF'⟩:=hw.sub h2
      rw [hsub]
      refine ⟨by rw [List.length_take,List.length_drop];omega, .inr ⟨h,b+off,F',own,rfl,hw',k,rfl,hF'.trans hF⟩⟩
    ·cases hc
   ·cases hc
 | n k pre e'=>
   simp only [DA,H0] at hc hn
   split at hc
   ·rename_i hb
    have:=Nat.eq_of_beq_eq_true hb;subst this
    split at hc
    ·rename_i own cs hl
     rw [hl] at hn
     simp only [Option.some.injEq] at hc hn
     subst hc;subst hn
     obtain ⟨hlt,hone,hpos,hr⟩:=hr
     obtain ⟨ds,h1,hr⟩:=hr own cs hl
     have hsub:FJ cs pre=ds:=by unfold FJ;rw [h1]
     rw [hsub]
     rcases hr with ⟨rfl,rfl⟩ | ⟨n',h,b,h3,h4,h5,rfl⟩
     ·have h0:cnt e ([]:List T)=0:=SA (n:=0) hpos (by simp)
      exact ⟨by rw [h0];simp, .inl ⟨rfl,h0,rfl⟩⟩
     ·have h0:=SA hpos h5
      obtain ⟨F,hw,hF⟩:=hm.node hl h3 h1 h4
      exact ⟨by rw [h0];exact h5, .inr ⟨h,b,F,own,by rw [h0],hw,k,rfl,hF⟩⟩
    ·cases hc
   ·cases hc
 | _=>simp [H0] at hn
theorem dI.rZ {m:Mst} {k:Option Nat} {e n:Nat} {c:List T} {u:Value} (h:dI m k e n c u):lnL u=some (iv n):=by
 rcases h.at_ with ⟨rfl,rfl,_⟩ | ⟨x,b,F,own,rfl,_⟩ <;> rfl
theorem Win.DH {s:St} {own:Bool} {c:List T} {h b:Nat} {F:List Nat} (hw:Win s own c h b F): ∃ob us F',s.get h=some ob∧JP ob b c.length=some us∧TRs s own c us F'∧us.length=c.length∧F=h::F'∧(own=true→ob.own=true)∧us=(ob.cells.drop b).take c.length∧b+c.length≤ob.cells.length:=by
 obtain ⟨ob,F',h1,h2,h3,h4,rfl⟩:=hw
 exact ⟨ob,_,F',h1,by unfold JP;rw [if_pos h3],h4,H3 h4,rfl,h2,rfl,h3⟩
theorem dI.got {m:Mst} {k:Option Nat} {e n:Nat} {c:List T} {u:Value} (h:dI m k e n c u): ∃us F own,m.s.got e u=some us∧TRs m.s own c us F:=by
 rcases h.at_ with ⟨rfl,rfl,rfl⟩ | ⟨x,b,F,own,rfl,hw,_⟩
 ·exact ⟨[],[],true,rfl,rfl,rfl⟩
 ·obtain ⟨ob,us,F',h1,h2,h3,h4,_⟩:=hw.DH
  by_cases h0:n=0
  ·subst h0
   have hc:c=[]:=List.eq_nil_of_length_eq_zero (by rw [h.len];simp)
   subst hc
   exact ⟨[],[],true,by simp [St.got,sl],rfl,rfl⟩
  ·rw [h.len] at h2
   exact ⟨us,F',own,by simp only [St.got,sl,h0,if_false,if_true,h1,Option.bind_some];exact h2,h3⟩
theorem vW {m:Mst} {k:Option Nat} {e n j:Nat} {c:List T} {u:Value} (h:dI m k e n c u) (hj:j<n) (ik:IntKind): ∃x b,u=sl x b n e∧ia e u (.int ik (Int.ofNat j))=some (pt x (b+j*e)):=by
 rcases h.at_ with ⟨rfl,rfl,_⟩ | ⟨x,b,F,own,rfl,_⟩
 ·omega
 ·refine ⟨x,b,rfl, ?_⟩
  have:(0:Int)≤Int.ofNat j∧Int.ofNat j<(n:Int):=by simp;omega
  simp only [ia,sl,this,and_self,if_true,pt]
  rfl
theorem V3: ∀{pre:List Nat} {cs ds es:List T} {off e:Nat},node cs pre=some ds→ds[off]? =some (.l e es)→node cs (pre++[off])=some es
 | [],cs,ds,es,off,e,h,hd=>by
   simp only [Eng.node,Option.some.injEq] at h;subst h
   simp only [List.nil_append,Eng.node,hd]
 | i::r,cs,ds,es,off,e,h,hd=>by
   simp only [Eng.node] at h
   split at h
   ·rename_i e' es' hi
    simp only [List.cons_append,Eng.node,hi]
    exact V3 h hd
   ·cases h
theorem V8 {s:St}: ∀{pre:List Nat} {h b h1 b1 h2 b2 n e off:Nat} {ob:Ob},spot s h b pre=some (h1,b1)→s.get h1=some ob→ob.cells[b1+off]? =some (sl h2 b2 n e)→spot s h b (pre++[off])=some (h2,b2)
 | [],h,b,h1,b1,h2,b2,n,e,off,ob,hs,hg,hc=>by
   simp only [spot,Option.some.injEq,Prod.mk.injEq] at hs
   obtain ⟨rfl,rfl⟩:=hs
   simp only [List.nil_append,spot,hg,hc,sl]
 | i::r,h,b,h1,b1,h2,b2,n,e,off,ob,hs,hg,hc=>by
   simp only [spot] at hs
   split at hs
   ·rename_i ob' hg'
    split at hs
    ·rename_i x y _ _ hc'
     simp only [List.cons_append,spot,hg',hc']
     exact V8 hs hg hc
    ·cases hs
   ·cases hs
theorem PD {B:Bas} {ro:List (List T)} {m:Mst} (hm:Mem B ro m) {k off:Nat} {pre:List Nat} {u:Value} {own:Bool} {cs:List T} (hr:E0R ro m (.e k pre off) u) (hl:AV ro m.ob k=some (.ls own cs)):
  ∃ds h b F,node cs pre=some ds∧(m.A k).nil=false∧spot m.s (m.A k).h (m.A k).b pre=some (h,b)∧u=pt h (b+off)∧Win m.s own ds h b F∧F.Sublist (m.A k).F:=by
 obtain ⟨hlt,hone,hr⟩:=hr
 obtain ⟨ds,h,b,h1,h3,h4,rfl⟩:=hr own cs hl
 obtain ⟨F,hw,hF⟩:=hm.node hl h3 h1 h4
 exact ⟨ds,h,b,F,h1,h3,h4,rfl,hw,hF⟩
theorem fK {ds cs:List T} {pre:List Nat} {off:Nat} {t:T} (hn:node cs pre=some ds) (h:cell cs pre off=some t):ds[off]? =some t:=by
 unfold cell at h;rw [hn] at h;exact h
theorem Win.cell {s:St} {own:Bool} {ds:List T} {h b off:Nat} {F:List Nat} {t:T} (hw:Win s own ds h b F) (ht:ds[off]? =some t): ∃ob u F',s.get h=some ob∧ob.cells[b+off]? =some u∧TR s own t u F'∧F'.Sublist F:=by
 obtain ⟨ob,F1,h1,h2,h3,h4,rfl⟩:=hw
 obtain ⟨u,F',hu,ht',hs⟩:=TV h4 ht
 rw [HR _ _ _ _ (List.getElem?_eq_some_iff.1 ht).1] at hu
 exact ⟨ob,u,F',h1,hu,ht',hs.cons _⟩
theorem wD {B:Bas} {ro:List (List T)} {m:Mst} (hm:Mem B ro m) {k off:Nat} {pre:List Nat} {u v:Value} {own:Bool} {cs:List T} (hr:E0R ro m (.e k pre off) u) (hl:AV ro m.ob k=some (.ls own cs)) (hc:cell cs pre off=some (.c v)):ld false 1 u m.s=some (v,m.s)∧plain v=true:=by
 obtain ⟨ds,h,b,F,h1,h2,h3,rfl,hw,hF⟩:=PD hm hr hl
 obtain ⟨ob,w,F',g1,g2,g3,g4⟩:=hw.cell (fK h1 hc)
 simp only [TR] at g3
 obtain ⟨rfl,g5,_⟩:=g3
 exact ⟨YA g1 g2,g5⟩
theorem mQ {B:Bas} {ro:List (List T)} {m:Mst} (hm:Mem B ro m) {k off e:Nat} {pre:List Nat} {own own':Bool} {cs ds es:List T} {h b:Nat} {ob:Ob} {w:Value} {F':List Nat} (hl:AV ro m.ob k=some (.ls own cs)) (h1:node cs pre=some ds) (h2:(m.A k).nil=false)
  (h3:spot m.s (m.A k).h (m.A k).b pre=some (h,b)) (hc:ds[off]? =some (.l e es)) (he:0<e) (g1:m.s.get h=some ob) (g2:ob.cells[b+off]? =some w) (g3:TR m.s own' (.l e es) w F'):E0R ro m (.n k (pre++[off]) e) w:=by
 have hn:=V3 h1 hc
 refine ⟨NY hm.kok hl, ?_,he,fun own2 cs2 hl2=> ?_⟩
 ·rcases GA.1 g3 with ⟨rfl,_⟩ | ⟨_,_,_,rfl,_⟩ <;> rfl
 ·rw [hl] at hl2;cases hl2
  refine ⟨es,hn, ?_⟩
  rcases GA.1 g3 with ⟨rfl,rfl,_⟩ | ⟨h',b',n',rfl,hlen,_⟩
  ·exact .inl ⟨rfl,rfl⟩
  ·exact .inr ⟨n',h',b',h2,V8 h3 g1 g2,hlen,rfl⟩
theorem uS {B:Bas} {ro:List (List T)} {m:Mst} (hm:Mem B ro m) {k off e:Nat} {pre:List Nat} {u:Value} {own:Bool} {cs es:List T} (he:0<e) (hr:E0R ro m (.e k pre off) u) (hl:AV ro m.ob k=some (.ls own cs)) (hc:cell cs pre off=some (.l e es)):
  ∃v,ld false 1 u m.s=some (v,m.s)∧E0R ro m (.n k (pre++[off]) e) v:=by
 obtain ⟨ds,h,b,F,h1,h2,h3,rfl,hw,hF⟩:=PD hm hr hl
 obtain ⟨ob,w,F',g1,g2,g3,g4⟩:=hw.cell (fK h1 hc)
 exact ⟨w,YA g1 g2,mQ hm hl h1 h2 h3 (fK h1 hc) he g1 g2 g3⟩
def VL:List CK→Prop
 | []=>True
 | .c::r=>VL r
 | .l e::r=>0<e∧VL r
theorem Q9: ∀{a b:List CK},VL a→VL b→VL (a++b)
 | [],b,_,h=>h
 | .c::r,b,h,h2=>Q9 (a:=r) h h2
 | .l e::r,b,h,h2=>⟨h.1,Q9 h.2 h2⟩
theorem bI {a:List CK} (h:VL a): ∀{n:Nat},VL (List.replicate n a).flatten
 | 0=>trivial
 | n+1=>by rw [List.replicate_succ,List.flatten_cons];exact Q9 h (bI h)
theorem QO {P:Program}: ∀{n:Nat} {t:TypeId} {ks:List CK},MF P n t=some ks→VL ks
 | 0,t,ks,h=>by simp [MF] at h
 | n+1,t,ks,h=>by
   simp only [MF] at h
   split at h
   ·cases h;trivial
   ·cases h;trivial
   ·cases h;trivial
   ·simp only [Option.bind_eq_some_iff] at h
    obtain ⟨sz,_,h⟩:=h
    cases sz with
    | zero=>simp at h
    | succ sz=>simp only [Option.some.injEq] at h;subst h;exact ⟨Nat.succ_pos _,trivial⟩
   ·rename_i fs _
    generalize fs.toList=l at h
    induction l generalizing ks with
    | nil=>simp only [ZN,Option.some.injEq] at h;subst h;trivial
    | cons f r ih=>
      simp only [ZN,Option.bind_eq_some_iff,Option.map_eq_some_iff] at h
      obtain ⟨a,h1,b,h2,rfl⟩:=h
      exact Q9 (QO h1) (ih _ h2)
   ·simp only [Option.map_eq_some_iff] at h
    obtain ⟨a,h1,rfl⟩:=h
    exact bI (QO h1)
   ·cases h
theorem eH {B:Bas} {ro:List (List T)} {m:Mst} (hm:Mem B ro m) {k:Nat} {pre:List Nat} {own:Bool} {cs ds:List T} {h b:Nat} {ob:Ob} (hl:AV ro m.ob k=some (.ls own cs)) (h1:node cs pre=some ds) (h2:(m.A k).nil=false)
  (h3:spot m.s (m.A k).h (m.A k).b pre=some (h,b)) (g1:m.s.get h=some ob) {ts0:List T} {off:Nat}: ∀(ks:List CK) (j:Nat) (ts:List T) (us:List Value) (F:List Nat),VL ks→KC ks ts=true→TRs m.s own ts us F→
   (∀i t,ts[i]? =some t→ts0[j+i]? =some t∧ds[off+(j+i)]? =some t)→(∀i u,us[i]? =some u→ob.cells[b+(off+(j+i))]? =some u)→CO (E0R ro m) (mkG k pre off ts0 ks j) us
 | [],j,ts,us,F,hp,hc,ht,hx,hu=>by
   cases ts with
   | nil=>simp only [TRs] at ht;rw [ht.1];trivial
   | cons t r=>simp [KC] at hc
 | .c::ks,j,ts,us,F,hp,hc,ht,hx,hu=>by
   cases ts with
   | nil=>simp [KC] at hc
   | cons t r=>
     cases t with
     | l e es=>simp [KC] at hc
     | x=>simp [KC] at hc
     | c v=>
       simp only [KC] at hc
       simp only [TRs] at ht
       obtain ⟨u,us',F1,F2,rfl,h4,h5,rfl⟩:=ht
       simp only [TR] at h4
       refine ⟨?_,eH hm hl h1 h2 h3 g1 ks (j+1) r us' F2 hp hc h5 (fun i t hi=> ?_) (fun i w hi=> ?_)⟩
       ·have:=(hx 0 (.c v) rfl).1
        rw [Nat.add_zero] at this
        have hv:nxT ts0 j= .c v:=by unfold nxT;rw [List.getD_eq_getElem?_getD,this];rfl
        rw [hv];exact ⟨h4.1,h4.2.1⟩
       ·have:=hx (i+1) t (by simpa using hi)
        rw [show j+1+i=j+(i+1) by omega];exact this
       ·have:=hu (i+1) w (by simpa using hi)
        rw [show j+1+i=j+(i+1) by omega];exact this
 | .l e::ks,j,ts,us,F,hp,hc,ht,hx,hu=>by
   cases ts with
   | nil=>simp [KC] at hc
   | cons t r=>
     cases t with
     | c v=>simp [KC] at hc
     | x=>simp [KC] at hc
     | l e' es=>
       simp only [KC,Bool.and_eq_true] at hc
       have:=Nat.eq_of_beq_eq_true hc.1;subst this
       simp only [TRs] at ht
       obtain ⟨u,us',F1,F2,rfl,h4,h5,rfl⟩:=ht
       refine ⟨?_,eH hm hl h1 h2 h3 g1 ks (j+1) r us' F2 hp.2 hc.2 h5 (fun i t hi=> ?_) (fun i w hi=> ?_)⟩
       ·have a1:=(hx 0 (.l e es) rfl).2
        have a2:=hu 0 u rfl
        rw [Nat.add_zero] at a1 a2
        exact mQ hm hl h1 h2 h3 a1 hp.1 g1 a2 h4
       ·have:=hx (i+1) t (by simpa using hi)
        rw [show j+1+i=j+(i+1) by omega];exact this
       ·have:=hu (i+1) w (by simpa using hi)
        rw [show j+1+i=j+(i+1) by omega];exact this
theorem UZ: ∀{ks:List CK} {ts:List T},KC ks ts=true→ts.length=ks.length
 | [],[],_=>rfl
 | .c::r, .c _::ts,h=>by simp only [KC] at h;simp [UZ h]
 | .l e::r, .l e' _::ts,h=>by simp only [KC,Bool.and_eq_true] at h;simp [UZ h.2]
 | [],_::_,h=>by simp [KC] at h
 | .c::_,[],h=>by simp [KC] at h
 | .l _::_,[],h=>by simp [KC] at h
 | .c::_, .l _ _::_,h=>by simp [KC] at h
 | .c::_, .x::_,h=>by simp [KC] at h
 | .l _::_, .x::_,h=>by simp [KC] at h
 | .l _::_, .c _::_,h=>by simp [KC] at h
theorem vG {B:Bas} {ro:List (List T)} {m:Mst} (hm:Mem B ro m) {k off:Nat} {pre:List Nat} {u:Value} {own:Bool} {cs ts:List T} {ks:List CK} (hp:VL ks) (hpos:0<ks.length) (hr:E0R ro m (.e k pre off) u) (hl:AV ro m.ob k=some (.ls own cs))
  (hts:GB cs pre off ks.length=ts) (hck:KC ks ts=true): ∃us:List Value,ld true ks.length u m.s=some (.agg us.toArray,m.s)∧CO (E0R ro m) (mkG k pre off ts ks 0) us:=by
 obtain ⟨ds,h,b,F,h1,h2,h3,rfl,hw,hF⟩:=PD hm hr hl
 have hsub:ts=(ds.drop off).take ks.length:=by rw [←hts];unfold GB;rw [h1]
 have hlen:=UZ hck
 have hle:off+ks.length≤ds.length:=by
  rw [hsub,List.length_take,List.length_drop] at hlen;omega
 obtain ⟨ob,us,F',g1,g2,g3,g4,g5,g6,g7,g8⟩:=hw.DH
 obtain ⟨Fa,Fb,Fc,g9,k1,k2,k3⟩:=JU g3 off ks.length
 rw [←hsub] at k2
 refine ⟨(us.drop off).take ks.length, ?_, ?_⟩
 ·refine nB g1 (by omega) ?_
  rw [g7,fX _ _ _ _ _ hle]
 ·refine eH hm hl h1 h2 h3 g1 ks 0 ts _ _ hp hck k2 (fun i t hi=> ?_) (fun i w hi=> ?_)
  ·rw [Nat.zero_add]
   refine ⟨hi, ?_⟩
   have hi':=hi
   rw [hsub] at hi'
   rw [←HR ds off ks.length i (by rw [←hlen];exact (List.getElem?_eq_some_iff.1 hi).1)]
   exact hi'
  ·rw [Nat.zero_add]
   have hlt:i<ks.length:=by
    have:=(List.getElem?_eq_some_iff.1 hi).1
    rw [List.length_take] at this;omega
   rw [HR _ _ _ _ hlt,g7,HR _ _ _ _ (by omega)] at hi
   rw [←hi]
end Go.Proofs.Ytklmcfpgdfibnaa.Eng
namespace Go.Proofs.Ytklmcfpgdfibnaa.Eng
open Go Go.RowKit
set_option linter.unusedVariables false
set_option linter.unusedSimpArgs false
theorem HQ: ∀{ob:Obs},EB [] ob=ob
 | []=>rfl
 | (a, .bx xs)::r=>by
   have hf:C4 []=id:=funext fun _=>IB
   simp [EB,hf,HQ]
 | (a, .ls o cs)::r=>by simp [EB,HQ]
theorem iY (o:Ob2):HY [] o=o:=by
 cases o with
 | bx xs=>
   have hf:C4 []=id:=funext fun _=>IB
   simp [HY,hf]
 | ls _ _=>rfl
theorem GY {ro:List (List T)} {ob:Obs} {k k':Nat} {o o':Ob2} (hl:BT ob k=some o):AV ro (GC ob k o') k'=if k=k' then some o' else AV ro ob k':=by
 unfold AV;rw [KM,hl]
 by_cases h:k=k'
 ·simp [h]
 ·simp [h]
theorem Step.chg {B:Bas} {ro:List (List T)} {m:Mst} {ob1:Obs} {dl kl:List Nat} {k:Nat} {o o':Ob2} {a:Asg} {s':St} (hm:Mem B ro m) (hg:FU ro m.ob ob1 m.nk dl) (hl:BT ob1 k=some o) (ho:FL o=true) (hn:m.s.n≤s'.n)
  (hfr: ∀h,h<m.s.n→(∀k'∈dl,h∉(m.A k').F)→h∉(m.A k).F→s'.get h=m.s.get h) (hnd:a.F.Nodup) (hF: ∀h∈a.F,(∃k'∈dl,h∈(m.A k').F)∨h∈(m.A k).F∨m.s.n≤h)
  (h0:Kp0 ro m ⟨s',EB kl (GC ob1 k o'),m.nk,I5 m.A k a⟩ k) (hd:kl.any (Nat.beq k)=false→Deep ro m ⟨s',EB kl (GC ob1 k o'),m.nk,I5 m.A k a⟩ k):
  Step B ro m ⟨s',EB kl (GC ob1 k o'),m.nk,I5 m.A k a⟩ kl (fun k'=>k'≠k∧k'∉dl∧ ∃o,AV ro m.ob k'=some o):=by
 have hl2:=BV (ro:=ro) hl
 have hkd:k∉dl:=by
  intro hk;rw [hg.look,if_pos hk] at hl2;cases hl2
 have hlm:AV ro m.ob k=some o:=by rw [hg.look,if_neg hkd] at hl2;exact hl2
 have hnew: ∀k',AV ro (EB kl (GC ob1 k o')) k'=if k=k' then some (HY kl o') else if k'∈dl then none else (AV ro m.ob k').map (HY kl):=fun k'=>by
  rw [H6,GY hl,hg.look]
  by_cases h:k=k'
  ·simp [h]
  ·by_cases h2:k'∈dl <;> simp [h,h2]
 have hkey: ∀k' x,AV ro (EB kl (GC ob1 k o')) k'=some x→ ¬(k'≠k∧k'∉dl∧ ∃o,AV ro m.ob k'=some o)→k'=k:=by
  intro k' x hx hu
  rw [hnew] at hx
  by_cases e:k=k'
  ·exact e.symm
  ·rw [if_neg e] at hx
   by_cases hd:k'∈dl
   ·rw [if_pos hd] at hx;cases hx
   ·rw [if_neg hd] at hx
    cases hq:AV ro m.ob k' with
    | none=>rw [hq] at hx;cases hx
    | some y=>exact absurd ⟨Ne.symm e,hd,y,hq⟩ hu
 have hnot: ∀k',k'≠k→ ¬(k'≠k∧k'∉dl∧ ∃o,AV ro m.ob k'=some o)→AV ro (EB kl (GC ob1 k o')) k'=none:=by
  intro k' hne hu
  cases hx:AV ro (EB kl (GC ob1 k o')) k' with
  | none=>rfl
  | some x=>exact absurd (hkey k' x hx hu) hne
 refine ⟨hn,Nat.le_refl _,hg.kok.set.kill,fun k' hu=> ?_,fun h hh hx=>hfr h hh (fun k' hk'=> ?_) ?_,fun k' hk hu=> ?_,fun k' hk hu hq=> ?_,fun k' x hx hu=> ?_,fun k1 k2 o1 o2 hne h1 h2 u1 u2=> ?_⟩
 ·obtain ⟨hne,hd,x,hx⟩:=hu
  refine ⟨x,hx, ?_,LV hne⟩
  rw [hnew,if_neg (Ne.symm hne),if_neg hd,hx];rfl
 ·obtain ⟨x,hx',how⟩:=hg.own k' hk'
  exact hx k' x hx' (fun hu=>hu.2.1 hk') how
 ·exact hx k o hlm (fun hu=>hu.1 rfl) ho
 ·by_cases e:k'=k
  ·subst e;exact h0
  ·intro x hx;rw [hnot k' e hu] at hx;cases hx
 ·by_cases e:k'=k
  ·subst e;exact hd hq
  ·intro own cs own' cs' _ h2;rw [hnot k' e hu] at h2;cases h2
 ·have:=hkey k' x hx hu
  subst this
  simp only [B5]
  refine ⟨hnd,fun h hh=> ?_⟩
  rcases hF h hh with ⟨k1,hk1,hx1⟩ | hx1 | hx1
  ·obtain ⟨o1,ho1,how⟩:=hg.own k1 hk1
   exact .inl ⟨k1,o1,ho1,fun hu=>hu.2.1 hk1,how,hx1⟩
  ·exact .inl ⟨k',o,hlm,fun hu=>hu.1 rfl,ho,hx1⟩
  ·exact .inr hx1
 ·rw [hkey k1 o1 h1 u1,hkey k2 o2 h2 u2] at hne
  exact absurd rfl hne
theorem Y5 {C:Ctx} {B:Bas} {ro:List (List T)} {m:Mst} {ob1:Obs} {dl kl aff:List Nat} {k:Nat} {o o':Ob2} {a:Asg} {s':St} {st:Stp} {v:Value} {e:EV} (hm:Mem B ro m) (hg:FU ro m.ob ob1 m.nk dl) (hl:BT ob1 k=some o) (ho:FL o=true) (hn:m.s.n≤s'.n)
  (hfr: ∀h,h<m.s.n→(∀k'∈dl,h∉(m.A k').F)→h∉(m.A k).F→s'.get h=m.s.get h) (hnd:a.F.Nodup) (hF: ∀h∈a.F,(∃k'∈dl,h∈(m.A k').F)∨h∈(m.A k).F∨m.s.n≤h)
  (h0:Kp0 ro m ⟨s',EB kl (GC ob1 k o'),m.nk,I5 m.A k a⟩ k) (hd:kl.any (Nat.beq k)=false→Deep ro m ⟨s',EB kl (GC ob1 k o'),m.nk,I5 m.A k a⟩ k)
  (hgo:B9 C st m.s v s') (hob:Kp ro m ⟨s',EB kl (GC ob1 k o'),m.nk,I5 m.A k a⟩ kl→ObR ro ⟨s',EB kl (GC ob1 k o'),m.nk,I5 m.A k a⟩ k (HY kl o'))
  (hev:EVR (E0R ro ⟨s',EB kl (GC ob1 k o'),m.nk,I5 m.A k a⟩) e v) (haf: ∀k o,AV ro m.ob k=some o→aff.any (Nat.beq k)=false→ ∀h∈(m.A k).F,s'.get h=m.s.get h):
  Out C B ro m aff kl st v e ⟨s',EB kl (GC ob1 k o'),m.nk,I5 m.A k a⟩:=by
 have hst:=Step.chg (o':=o') (kl:=kl) (B:=B) hm hg hl ho hn hfr hnd hF h0 hd
 have hkp:=hst.kp hm
 have hro: ∀j,j<ro.length→j≠k:=fun j hj he=>by
  subst he
  have:=hg.kok.lt _ (HO hl);simp at this;omega
 refine ⟨hgo,hst.mem hm fun k' x hx hu=> ?_,hkp,hev,haf,hn,fun j hj=>LV (hro j hj)⟩
 have hk':k'=k∧x=HY kl o':=by
  have h2:=hx
  simp only [H6,GY hl,hg.look] at h2
  by_cases e:k=k'
  ·subst e;simp at h2;exact ⟨rfl,h2.symm⟩
  ·rw [if_neg e] at h2
   by_cases hd:k'∈dl
   ·simp [hd] at h2
   ·simp only [hd,if_false] at h2
    cases hq:AV ro m.ob k' with
    | none=>rw [hq] at h2;cases h2
    | some y=>exact absurd ⟨Ne.symm e,hd,y,hq⟩ hu
 obtain ⟨rfl,rfl⟩:=hk'
 exact hob hkp
theorem K6 {s:St} {h h':Nat} {x:Option Ob} (hne:h'≠h):(s.put h x).get h'=s.get h':=by
 unfold St.get;rw [St.P1,St.lO,if_neg hne]
theorem KE {s:St} {h:Nat} {x:Option Ob} (hh:h<s.n):(s.put h x).get h=x:=by rw [St.fU _ _ _ _ hh,if_pos rfl]
theorem dT {sz:Nat} {v:Value} {s:St} {h off:Nat} {ob:Ob} (hg:s.get h=some ob) (ho:ob.own=true) (hv:vok v=true) (hl:(cellsOf v).length=sz) (hle:off+sz≤ob.cells.length):
  sto sz (pt h off) v s=some (undef,s.put h (some ⟨CC ob.cells off (cellsOf v),true⟩)):=by
 obtain ⟨cs,own⟩:=ob
 cases ho
 subst hl
 simp only [sto,pt,hg,Option.bind_some,hv,beq_self_eq_true,decide_eq_true hle,Bool.and_self,Bool.true_and,if_true]
theorem XX {C:Ctx} {B:Bas} {ro:List (List T)} {m:Mst} {k off sz:Nat} {xs ys:List E0} {u v:Value} (hm:Mem B ro m) (hl:BT m.ob k=some (.bx xs)) (hu:E0R ro m (.p k off) u) (hv:vok v=true) (hy:CO (E0R ro m) ys (cellsOf v))
  (hsz:ys.length=sz) (hle:off+sz≤xs.length): ∃s',Out C B ro m [k] [] (.mu (sto sz u v)) undef (.o .w) ⟨s',GC m.ob k (.bx (xs.take off++(ys++xs.drop (off+ys.length)))),m.nk,m.A⟩:=by
 have hl2:=BV (ro:=ro) hl
 obtain ⟨hF,us,hg,ha⟩:=hm.obr k _ hl2
 have hpt:=hu.2.2 xs hl2
 subst hpt
 have hlen:=F6 ha
 have hcl:=F6 hy
 have hlt:(m.A k).h<m.s.n:=St.FK hg
 have hgo:sto sz (pt (m.A k).h off) v m.s=some (undef,m.s.put (m.A k).h (some ⟨CC us off (cellsOf v),true⟩)):=dT hg rfl hv (by omega) (by simp;omega)
 have hA:I5 m.A k (m.A k)=m.A:=funext fun x=>by unfold I5;split <;> simp [*]
 have hfr: ∀h,h∉(m.A k).F→(m.s.put (m.A k).h (some ⟨CC us off (cellsOf v),true⟩)).get h=m.s.get h:=fun h hh=>K6 (fun he=>hh (by rw [hF,he];simp))
 have hown:=hm.own k _ hl2 rfl
 have key:=Y5 (C:=C) (B:=B) (kl:=[]) (aff:=[k]) (o':= .bx (xs.take off++(ys++xs.drop (off+ys.length)))) (a:=m.A k) (st:= .mu (sto sz (pt (m.A k).h off) v)) (v:=undef) (e:= .o .w) hm (FU.nil hm.kok) hl rfl
  (s':=m.s.put (m.A k).h (some ⟨CC us off (cellsOf v),true⟩)) (Nat.le_refl _) (fun h _ _ hh=>hfr h hh) hown.1 (fun h hh=> .inr (.inl hh)) ?_ ?_ hgo ?_ trivial ?_
 ·rw [HQ,hA] at key
  exact ⟨_,key⟩
 ·intro o2 ho2
  simp only [HQ,GY hl,if_true,Option.some.injEq] at ho2
  subst ho2
  exact ⟨⟨xs,hl2⟩,by rw [hA]⟩
 ·intro _ own cs own' cs' h1 _
  rw [hl2] at h1;cases h1
 ·intro hkp
  simp only [iY]
  refine ⟨by simp only [B5];exact hF,CC us off (cellsOf v),by simp only [B5];exact KE hlt, ?_⟩
  have hk: ∀x u,E0R ro m x u→E0R ro _ x u:=fun x u hx=>by have:=hkp.e0 hx;rwa [IB] at this
  have hf:(fun x:E0=>x)=id:=rfl
  have a1:=HD (f:=fun x=>x) hk ha
  have a2:=HD (f:=fun x=>x) hk hy
  rw [hf,List.map_id] at a1 a2
  have e:CC us off (cellsOf v)=us.take off++(cellsOf v++us.drop (off+ys.length)):=by unfold CC;rw [List.append_assoc,hcl]
  exact (congrArg (CO (E0R ro _) _) e).mpr (GW (I7 off a1) (GW a2 (JM _ a1)))
 ·intro k' o2 ho2 hne h hh
  refine hfr h fun hx=> ?_
  have:k'≠k:=fun he=>by subst he;simp at hne
  exact hm.dis k k' _ o2 (Ne.symm this) hl2 ho2 rfl h hx hh
theorem G6: ∀{pre:List Nat} {cs ds ds':List T},node cs pre=some ds→ds'.length=ds.length→(GF cs pre ds').length=cs.length
 | [],cs,ds,ds',hn,hl=>by simp only [Eng.node,Option.some.injEq] at hn;subst hn;simpa [GF] using hl
 | i::r,cs,ds,ds',hn,hl=>by
   simp only [GF];split
   ·simp
   ·rfl
theorem GR {α:Type} (l:List α) (i:Nat) (x:α) (h:i<l.length):l.set i x=l.take i++([x]++l.drop (i+[x].length)):=by
 rw [List.set_eq_take_append_cons_drop,if_pos h];rfl
theorem NZ {ds ts:List T} {off:Nat} (h:off+ts.length≤ds.length):(KK ds off ts).length=ds.length:=by
 unfold KK;simp;omega
theorem Win.put {s s':St} {h' b':Nat} {ds ds':List T} {Fn:List Nat}: ∀{pre:List Nat} {cs:List T} {h b:Nat} {F:List Nat},Win s true cs h b F→F.Nodup→Eng.node cs pre=some ds→spot s h b pre=some (h',b')→ds'.length=ds.length→
  (∀G,G.Sublist F→Win s true ds h' b' G→ ∃G',Win s' true ds' h' b' G'∧G'.Nodup∧(∀x∈G',x∈G∨x∈Fn)∧ ∀x∈F,x∉G→s'.get x=s.get x)→(∀x∈Fn,x∉F)→
  ∃F2,Win s' true (GF cs pre ds') h b F2∧F2.Nodup∧ ∀x∈F2,x∈F∨x∈Fn
 | [],cs,h,b,F,hw,hnd,hn,hs,hl,hW,hFn=>by
   simp only [Eng.node,Option.some.injEq] at hn;subst hn
   simp only [spot,Option.some.injEq,Prod.mk.injEq] at hs
   obtain ⟨rfl,rfl⟩:=hs
   obtain ⟨G',g1,g2,g3,_⟩:=hW F (List.Sublist.refl _) hw
   exact ⟨G',g1,g2,g3⟩
 | i::r,cs,h,b,F,hw,hnd,hn,hs,hl,hW,hFn=>by
   simp only [Eng.node] at hn
   obtain ⟨ob,F1,h1,h2,h3,h4,rfl⟩:=hw
   split at hn
   ·rename_i e es hi
    have hlt:=(List.getElem?_eq_some_iff.1 hi).1
    obtain ⟨Fa,Fb,Fc,rfl,k1,k2,k3⟩:=JU h4 i 1
    have e1:(cs.drop i).take 1=[.l e es]:=by rw [List.take_one,List.head?_drop,hi];rfl
    rw [e1] at k2
    obtain ⟨u,hu,ht⟩:=GP.1 k2
    have hu':ob.cells[b+i]? =some u:=by
     rw [←HR _ _ _ _ hlt]
     rw [List.take_one,List.head?_drop] at hu
     cases hx:((ob.cells.drop b).take cs.length)[i]? with
     | none=>rw [hx] at hu;simp at hu
     | some y=>rw [hx] at hu;simp at hu;rw [hu]
    simp only [spot,h1,hu'] at hs
    rcases GA.1 ht with ⟨rfl,_⟩ | ⟨x1,b1,n1,rfl,hlen,hw1⟩
    ·simp [nl] at hs
    ·simp only [sl] at hs
     have hnd1:=List.nodup_cons.1 hnd
     have hndb:Fb.Nodup:=(List.nodup_append.1 (List.nodup_append.1 hnd1.2).2.1).1
     have hab:=(List.nodup_append.1 hnd1.2).2.2
     have hbc:=(List.nodup_append.1 (List.nodup_append.1 hnd1.2).2.1).2.2
     have hbs:Fb.Sublist (h::(Fa++(Fb++Fc))):=((List.sublist_append_left Fb Fc).trans (List.sublist_append_right Fa _)).cons _
     have hsame: ∀G,G.Sublist Fb→Win s true ds h' b' G→ ∃G',Win s' true ds' h' b' G'∧G'.Nodup∧(∀x∈G',x∈G∨x∈Fn)∧ ∀x∈h::(Fa++(Fb++Fc)),x∉G→s'.get x=s.get x:=
      fun G hG hGw=>hW G (hG.trans hbs) hGw
     obtain ⟨G0,hG0,hG0w⟩: ∃G,G.Sublist Fb∧Win s true ds h' b' G:=by
      rcases hw1.node hn with ⟨_,_,hh⟩ | ⟨h'',b'',F3,a1,a2,a3⟩
      ·rw [hh] at hs;cases hs
      ·rw [a1] at hs;cases hs
       exact ⟨F3,a3,a2⟩
     obtain ⟨_,_,_,_,hrest⟩:=hsame G0 hG0 hG0w
     have hkeep: ∀x∈h::(Fa++(Fb++Fc)),x∉Fb→s'.get x=s.get x:=fun x hx hnb=>hrest x hx fun hg=>hnb (hG0.subset hg)
     obtain ⟨F2,g1,g2,g3⟩:=Win.put hw1 hndb hn hs hl (fun G hG hGw=>by
      obtain ⟨G',a1,a2,a3,a4⟩:=hsame G hG hGw
      exact ⟨G',a1,a2,a3,fun x hx=>a4 x (by simp [hx])⟩) (fun x hx hb=>hFn x hx (by simp [hb]))
     have hh:s'.get h=some ob:=by rw [hkeep h (by simp) (fun hb=>hnd1.1 (by simp [hb]))];exact h1
     refine ⟨h::(Fa++(F2++Fc)),⟨ob,_,hh,h2, ?_, ?_,rfl⟩, ?_,fun x hx=> ?_⟩
     ·simp only [GF,hi,List.length_set];exact h3
     ·simp only [GF,hi,List.length_set]
      rw [GR _ _ _ hlt]
      have hval:(ob.cells.drop b).take cs.length=((ob.cells.drop b).take cs.length).take i++([sl x1 b1 n1 e]++((ob.cells.drop b).take cs.length).drop (i+1)):=by
       conv=>lhs;rw [←List.take_append_drop i ((ob.cells.drop b).take cs.length)]
       congr 1
       rw [←List.drop_drop]
       conv=>lhs;rw [←List.take_append_drop 1 (((ob.cells.drop b).take cs.length).drop i)]
       rw [hu]
      rw [hval]
      refine M9 (Fb:=Fb) (ts':=[.l e (GF es r ds')]) k1 k3 (GP.2 ⟨_,rfl,GA.2 (.inr ⟨x1,b1,n1,rfl,by rw [G6 hn hl];exact hlen,g1⟩)⟩) (fun x hx=>hkeep x (by simp [hx]) fun hb=> ?_) (fun x hx=>hkeep x (by simp [hx]) fun hb=> ?_)
      ·exact hab x hx x (by simp [hb]) rfl
      ·exact hbc x hb x hx rfl
     ·refine List.nodup_cons.2 ⟨fun hx=> ?_,List.nodup_append.2 ⟨(List.nodup_append.1 hnd1.2).1,List.nodup_append.2 ⟨g2,(List.nodup_append.1 (List.nodup_append.1 hnd1.2).2.1).2.1,fun x hx y hy he=> ?_⟩,fun x hx y hy he=> ?_⟩⟩
      ·rcases List.mem_append.1 hx with hx | hx
       ·exact hnd1.1 (by simp [hx])
       ·rcases List.mem_append.1 hx with hx | hx
        ·rcases g3 h hx with hx | hx
         ·exact hnd1.1 (by simp [hx])
         ·exact hFn h hx (by simp)
        ·exact hnd1.1 (by simp [hx])
      ·subst he
       rcases g3 x hx with hx | hx
       ·exact hbc x hx x hy rfl
       ·exact hFn x hx (by simp [hy])
      ·subst he
       rcases List.mem_append.1 hy with hy | hy
       ·rcases g3 x hy with hy | hy
        ·exact hab x hx x (by simp [hy]) rfl
        ·exact hFn x hy (by simp [hx])
       ·exact hab x hx x (by simp [hy]) rfl
     ·rcases List.mem_cons.1 hx with rfl | hx
      ·exact .inl (by simp)
      ·rcases List.mem_append.1 hx with hx | hx
       ·exact .inl (by simp [hx])
       ·rcases List.mem_append.1 hx with hx | hx
        ·rcases g3 x hx with hx | hx
         ·exact .inl (by simp [hx])
         ·exact .inr hx
        ·exact .inl (by simp [hx])
   ·cases hn
theorem VG {s:St} {h0:Nat} {ob ob':Ob} (hg:s.get h0=some ob) (hc: ∀(i:Nat) (x b1 n e:Nat),ob.cells[i]? =some (Value.slice (some ⟨x,b1,none⟩) n e)→ob'.cells[i]? =some (Value.slice (some ⟨x,b1,none⟩) n e)): ∀{pre:List Nat} {h b:Nat} {hb:Nat×Nat},spot s h b pre=some hb→spot (s.put h0 (some ob')) h b pre=some hb
 | [],h,b,hb,hs=>hs
 | i::r,h,b,hb,hs=>by
   simp only [spot] at hs
   split at hs
   ·rename_i ob1 h1
    split at hs
    ·rename_i x y n e h2
     simp only [spot]
     by_cases he:h=h0
     ·subst he
      rw [hg] at h1;cases h1
      rw [KE (St.FK hg)]
      simp only [hc _ _ _ _ _ h2]
      exact VG hg hc hs
     ·rw [K6 he,h1]
      simp only [h2]
      exact VG hg hc hs
    ·cases hs
   ·cases hs
theorem PW {off:Nat} {a w:Value}: ∀{pre:List Nat} {cs ds:List T},node cs pre=some ds→ds[off]? =some (.c w)→ ∀{C2:List Nat} {ds2:List T},node cs C2=some ds2→ ∃ds2',node (GF cs pre (KK ds off [.c a])) C2=some ds2'∧ds2'.length=ds2.length
 | [],cs,ds,hn,hd,C2,ds2,h2=>by
   simp only [node,Option.some.injEq] at hn;subst hn
   have hlt:=(List.getElem?_eq_some_iff.1 hd).1
   have hs:KK cs off [.c a]=cs.set off (.c a):=(GR _ _ _ hlt).symm
   simp only [GF,hs]
   cases C2 with
   | nil=>simp only [node,Option.some.injEq] at h2;subst h2;exact ⟨_,rfl,by simp⟩
   | cons i r=>
     simp only [node] at h2
     split at h2
     ·rename_i e es hi
      have hne:off≠i:=fun he=>by subst he;rw [hd] at hi;cases hi
      exact ⟨ds2,by simp only [node,List.getElem?_set_ne hne,hi];exact h2,rfl⟩
     ·cases h2
 | j::r,cs,ds,hn,hd,C2,ds2,h2=>by
   simp only [node] at hn
   split at hn
   ·rename_i e es hj
    have hlt:=(List.getElem?_eq_some_iff.1 hj).1
    cases C2 with
    | nil=>
      simp only [node,Option.some.injEq] at h2;subst h2
      exact ⟨_,rfl,by simp only [GF,hj,List.length_set]⟩
    | cons i r2=>
      simp only [node] at h2
      split at h2
      ·rename_i e2 es2 hi
       simp only [GF,hj]
       by_cases he:j=i
       ·subst he
        rw [hj] at hi;cases hi
        simp only [node,List.getElem?_set_self hlt]
        exact PW hn hd h2
       ·exact ⟨ds2,by simp only [node,List.getElem?_set_ne he,hi];exact h2,rfl⟩
      ·cases h2
   ·cases hn
theorem jB {l:List Value} {off:Nat} {v x:Value} {i:Nat} (hl:off+1≤l.length) (hx:l[i]? =some x) (hne:i≠off):(CC l off [v])[i]? =some x:=by
 rw [G9 _ _ _ (by simpa using hl),if_neg (by simp;omega)];exact hx
theorem pB {C:Ctx} {B:Bas} {ro:List (List T)} {m:Mst} {k off:Nat} {pre:List Nat} {cs:List T} {u a w:Value} (hm:Mem B ro m) (hl:BT m.ob k=some (.ls true cs)) (hu:E0R ro m (.e k pre off) u) (ha:plain a=true) (hc:cell cs pre off=some (.c w)):
  ∃s' A',Out C B ro m [k] [] (.mu (sto 1 u a)) undef (.o .w) ⟨s',GC m.ob k (.ls true (IZ cs pre off [.c a])),m.nk,A'⟩:=by
 have hl2:=BV (ro:=ro) hl
 obtain ⟨ds,h,b,F,h1,h2,h3,rfl,hw,hF⟩:=PD hm hu hl2
 have hd:=fK h1 hc
 have hlt:=(List.getElem?_eq_some_iff.1 hd).1
 have hown:=hm.own k _ hl2 rfl
 obtain ⟨_,hwk⟩:_∧Win m.s true cs (m.A k).h (m.A k).b (m.A k).F:=by
  rcases hm.obr k _ hl2 with ⟨hh,_⟩ | hh
  ·rw [h2] at hh;cases hh
  ·exact hh
 obtain ⟨ob,F1,g1,g2,g3,g4,rfl⟩:=hw
 obtain ⟨w',F',q1,q2,q3⟩:=TV g4 hd
 simp only [TR] at q2
 obtain ⟨rfl,q4,_⟩:=q2
 rw [HR _ _ _ _ hlt] at q1
 have hh:=St.FK g1
 obtain ⟨hv1,hv2⟩:=SM ha
 have hgo:sto 1 (pt h (b+off)) a m.s=some (undef,m.s.put h (some ⟨CC ob.cells (b+off) [a],true⟩)):=by rw [←hv2];exact dT g1 (g2 rfl) hv1 (by rw [hv2];rfl) (by omega)
 have hhF:h∈(m.A k).F:=hF.subset (by simp)
 have hfr: ∀x,x≠h→(m.s.put h (some ⟨CC ob.cells (b+off) [a],true⟩)).get x=m.s.get x:=fun x hx=>K6 hx
 have hput:IZ cs pre off [.c a]=GF cs pre (KK ds off [.c a]):=by unfold IZ;rw [h1]
 have hll:(KK ds off [.c a]).length=ds.length:=NZ (by simp;omega)
 obtain ⟨F2,p1,p2,p3⟩:=Win.put (s':=m.s.put h (some ⟨CC ob.cells (b+off) [a],true⟩)) (ds':=KK ds off [.c a]) (Fn:=[]) hwk hown.1 h1 h3 hll (fun G hG hGw=>by
  obtain ⟨ob2,G1,r1,r2,r3,r4,rfl⟩:=hGw
  rw [g1] at r1;cases r1
  have hGn:=hG.nodup hown.1
  have hGn1:=List.nodup_cons.1 hGn
  have hsame: ∀x∈G1,(m.s.put h (some ⟨CC ob.cells (b+off) [a],true⟩)).get x=m.s.get x:=fun x hx=>hfr x fun he=>hGn1.1 (by rw [←he];exact hx)
  refine ⟨h::G1,⟨_,G1,KE hh,fun _=>rfl,by rw [hll,FY _ _ _ (by simp;omega)];exact r3, ?_,rfl⟩,hGn,fun x hx=> .inl hx,fun x _ hx=>hfr x fun he=>hx (by rw [he];simp)⟩
  obtain ⟨Fa,Fb,Fc,rfl,t1,t2,t3⟩:=JU r4 off 1
  have hb0:Fb=[]:=by
   have e1:(ds.drop off).take 1=[.c w']:=by rw [List.take_one,List.head?_drop,hd];rfl
   rw [e1] at t2
   obtain ⟨y,_,t2⟩:=GP.1 t2
   simp only [TR] at t2;exact t2.2.2
  subst hb0
  have:=M9 (Fb:=[]) (ts':=[.c a]) (us':=[a]) (Fb':=[]) t1 t3 (GP.2 ⟨a,rfl,by simp [TR,ha]⟩) (fun x hx=>hsame x (by simp [hx])) (fun x hx=>hsame x (by simp [hx]))
  rw [hll]
  have e2:((CC ob.cells (b+off) [a]).drop b).take ds.length=((ob.cells.drop b).take ds.length).take off++([a]++((ob.cells.drop b).take ds.length).drop (off+1)):=by
   have hlen:((ob.cells.drop b).take ds.length).length=ds.length:=by rw [List.length_take,List.length_drop];omega
   rw [show off+1=off+[a].length from rfl, ←GR ((ob.cells.drop b).take ds.length) off a (by omega)]
   apply List.ext_getElem?
   intro i
   by_cases hi:i<ds.length
   ·rw [HR _ _ _ _ hi,G9 _ _ _ (by simp;omega)]
    by_cases he:i=off
    ·subst he
     rw [if_pos (by simp),List.getElem?_set_self (by omega)];simp
    ·rw [if_neg (by simp;omega),List.getElem?_set_ne (Ne.symm he),HR _ _ _ _ hi]
   ·rw [List.getElem?_eq_none (by rw [List.length_take];omega),List.getElem?_eq_none (by rw [List.length_set];omega)]
  rw [e2];exact this) (fun x hx=>by simp at hx)
 have hA:(I5 m.A k ⟨false,(m.A k).h,(m.A k).b,F2⟩) k=⟨false,(m.A k).h,(m.A k).b,F2⟩:=B5
 have key:=Y5 (C:=C) (B:=B) (kl:=[]) (aff:=[k]) (o':= .ls true (IZ cs pre off [.c a])) (a:=⟨false,(m.A k).h,(m.A k).b,F2⟩) (st:= .mu (sto 1 (pt h (b+off)) a)) (v:=undef) (e:= .o .w) hm (FU.nil hm.kok) hl rfl
  (s':=m.s.put h (some ⟨CC ob.cells (b+off) [a],true⟩)) (Nat.le_refl _) (fun x _ _ hx=>hfr x fun he=>hx (by rw [he];exact hhF)) p2 (fun x hx=> .inr (.inl ((p3 x hx).resolve_right (by simp)))) ?_ ?_ hgo ?_ trivial ?_
 ·rw [HQ] at key
  exact ⟨_,_,key⟩
 ·intro o2 ho2
  simp only [HQ,GY hl,if_true,Option.some.injEq] at ho2
  subst ho2
  exact ⟨true,cs,hl2,by rw [hput];exact G6 h1 hll,by simp only [B5,h2],by simp only [B5],by simp only [B5]⟩
 ·intro _ own cs1 own' cs' hh1 hh2
  rw [hl2] at hh1;cases hh1
  simp only [HQ,GY hl,if_true,Option.some.injEq,Ob2.ls.injEq] at hh2
  obtain ⟨_,rfl⟩:=hh2
  refine ⟨fun C2 ds2 hn2=>by rw [hput];exact PW h1 hd hn2,fun _ C2 ds2 hb hn2 hs2=>VG g1 (fun i x b1 n e hi=> ?_) hs2⟩
  refine jB (by omega) hi fun he=> ?_
  subst he
  rw [q1] at hi;cases hi;cases q4
 ·intro hkp
  simp only [HY]
  exact .inr ⟨by simp only [B5],by simp only [B5];rw [hput];exact p1⟩
 ·intro k' o2 ho2 hne x hx
  refine hfr x fun he=> ?_
  subst he
  have:k'≠k:=fun he=>by subst he;simp at hne
  exact hm.dis k k' _ o2 (Ne.symm this) hl2 ho2 rfl x hhF hx
end Go.Proofs.Ytklmcfpgdfibnaa.Eng
namespace Go.Proofs.Ytklmcfpgdfibnaa.Eng
open Go Go.RowKit
set_option linter.unusedVariables false
set_option linter.constructorNameAsVariable false
set_option linter.unusedSimpArgs false
theorem YG {B:Bas} {ro:List (List T)} {m:Mst} (hm:Mem B ro m) {k e:Nat} {cs:List T} {u:Value} (hl:AV ro m.ob k=some (.ls true cs)) (hr:E0R ro m (.t k e) u):TR m.s true (.l e cs) u (m.A k).F:=by
 obtain ⟨_,_,_,hr⟩:=hr
 rcases hm.obr k _ hl with ⟨h1,rfl,h3⟩ | ⟨h1,hw⟩
 ·rcases hr _ _ hl with ⟨rfl,_⟩ | ⟨n,h4,_⟩
  ·rw [h3];exact GA.2 (.inl ⟨rfl,rfl,rfl⟩)
  ·rw [h1] at h4;cases h4
 ·rcases hr _ _ hl with ⟨_,h4⟩ | ⟨n,_,h4,rfl⟩
  ·rw [h1] at h4;cases h4
  ·exact GA.2 (.inr ⟨_,_,n,rfl,h4,hw⟩)
structure Mov (m:Mst) (dl:List Nat) (Fn:List Nat):Prop where
 nd:Fn.Nodup
 fr: ∀x∈Fn, ∃k∈dl,x∈(m.A k).F
theorem Mov.nil (m:Mst):Mov m [] []:=⟨List.nodup_nil,fun x hx=>by simp at hx⟩
theorem FU.at {ro:List (List T)} {ob ob1:Obs} {nk k:Nat} {dl:List Nat} {o:Ob2} (h:FU ro ob ob1 nk dl) (hl:BT ob1 k=some o):k∉dl∧AV ro ob k=some o:=by
 have:=BV (ro:=ro) hl
 rw [h.look] at this
 split at this
 ·cases this
 ·exact ⟨by assumption,this⟩
theorem kU {B:Bas} {ro:List (List T)} {m:Mst} (hm:Mem B ro m): ∀(ks:List CK) (xs:List E0) (us:List Value) (ob ob':Obs) (ts:List T) (dl:List Nat),FU ro m.ob ob m.nk dl→toT ks xs ob=some (ts,ob')→CO (E0R ro m) xs us→
  ∃dl' Fn,FU ro m.ob ob' m.nk (dl'++dl)∧TRs m.s true ts us Fn∧Mov m dl' Fn∧(∀k∈dl',k∉dl)∧ts.length=ks.length:=by
 intro ks
 induction ks with
 | nil=>
   intro xs us ob ob' ts dl hg ht ha
   cases xs with
   | nil=>
     simp only [toT,Option.some.injEq,Prod.mk.injEq] at ht
     obtain ⟨rfl,rfl⟩:=ht
     cases us with
     | nil=>exact ⟨[],[],hg,by simp only [TRs];exact ⟨trivial,trivial⟩,Mov.nil m,fun k hk=>by simp at hk,rfl⟩
     | cons u us=>exact ha.elim
   | cons x xs=>simp [toT] at ht
 | cons c ks ih=>
   intro xs us ob ob' ts dl hg ht ha
   cases xs with
   | nil=>cases c <;> simp [toT] at ht
   | cons x xs=>
     cases us with
     | nil=>exact ha.elim
     | cons u us=>
       obtain ⟨hx,ha⟩:=ha
       cases c with
       | c=>
         cases x <;> simp only [toT,reduceCtorEq] at ht
         rename_i a
         simp only [Option.map_eq_some_iff] at ht
         obtain ⟨p,hp,h2⟩:=ht
         cases h2
         obtain ⟨dl',Fn,g1,g2,g3,g4,g5⟩:=ih _ _ _ _ _ _ hg hp ha
         refine ⟨dl',Fn,g1, ?_,g3,g4,by simp [g5]⟩
         simp only [TRs]
         exact ⟨u,us,[],Fn,rfl,by simp [TR,hx.1,hx.2],g2,rfl⟩
       | l e=>
         cases x <;> simp only [toT,reduceCtorEq] at ht
         ·simp only [Option.map_eq_some_iff] at ht
          obtain ⟨p,hp,h2⟩:=ht
          cases h2
          obtain ⟨dl',Fn,g1,g2,g3,g4,g5⟩:=ih _ _ _ _ _ _ hg hp ha
          refine ⟨dl',Fn,g1, ?_,g3,g4,by simp [g5]⟩
          simp only [TRs]
          exact ⟨u,us,[],Fn,rfl,GA.2 (.inl ⟨hx,rfl,rfl⟩),g2,rfl⟩
         ·rename_i k e'
          split at ht
          ·rename_i hb hk
           have:=Nat.eq_of_beq_eq_true hb;subst this
           simp only [Option.map_eq_some_iff] at ht
           obtain ⟨p,hp,h2⟩:=ht
           cases h2
           obtain ⟨hkd,hkm⟩:=hg.at hk
           obtain ⟨dl',Fn,g1,g2,g3,g4,g5⟩:=ih _ _ _ _ _ _ (hg.del hk rfl) hp ha
           refine ⟨dl'++[k],(m.A k).F++Fn,by simpa using g1, ?_,⟨?_,fun y hy=> ?_⟩,fun j hj=> ?_,by simp [g5]⟩
           ·simp only [TRs]
            exact ⟨u,us,_,Fn,rfl,YG hm hkm hx,g2,rfl⟩
           ·refine List.nodup_append.2 ⟨(hm.own k _ hkm rfl).1,g3.nd,fun y hy z hz he=> ?_⟩
            subst he
            obtain ⟨j,hj,hjy⟩:=g3.fr y hz
            obtain ⟨o2,ho2,how⟩:=g1.own j (by simp [hj])
            exact hm.dis k j _ o2 (fun he=>g4 j hj (by simp [he])) hkm ho2 rfl y hy hjy
           ·rcases List.mem_append.1 hy with hy | hy
            ·exact ⟨k,by simp,hy⟩
            ·obtain ⟨j,hj,hjy⟩:=g3.fr y hy
             exact ⟨j,by simp [hj],hjy⟩
           ·rcases List.mem_append.1 hj with hj | hj
            ·exact fun hd=>g4 j hj (by simp [hd])
            ·rw [List.mem_singleton.1 hj];exact hkd
          ·cases ht
theorem Mov.xM {B:Bas} {ro:List (List T)} {m:Mst} {dl:List Nat} {Fn:List Nat} (hm:Mem B ro m) (h:Mov m dl Fn) (hd: ∀j∈dl, ∃o,AV ro m.ob j=some o∧FL o=true) {k:Nat} {o:Ob2} (hk:AV ro m.ob k=some o) (hkd:k∉dl): ∀x∈Fn,x∉(m.A k).F:=by
 intro x hx hxk
 obtain ⟨j,hj,hjx⟩:=h.fr x hx
 obtain ⟨o2,ho2,how⟩:=hd j hj
 exact hm.dis j k o2 o (fun he=>hkd (he ▸ hj)) ho2 hk how x hjx hxk
theorem qQ {C:Ctx} {B:Bas} {ro:List (List T)} {m:Mst} {k off sz:Nat} {pre:List Nat} {cs ts ds:List T} {ks:List CK} {xs:List E0} {ob':Obs} {u v:Value} (hm:Mem B ro m) (ht:toT ks xs m.ob=some (ts,ob')) (hl:BT ob' k=some (.ls true cs)) (hu:E0R ro m (.e k pre off) u)
  (hv:vok v=true) (hx:CO (E0R ro m) xs (cellsOf v)) (hks:ks.length=sz) (hn:node cs pre=some ds) (hle:off+ts.length≤ds.length) (hpos:0<sz):
  ∃s' A',Out C B ro m [k] [k] (.mu (sto sz u v)) undef (.o .w) ⟨s',EB [k] (GC ob' k (.ls true (IZ cs pre off ts))),m.nk,A'⟩:=by
 obtain ⟨dl,Fn,hg,htr,hmov,_,htl⟩:=kU hm ks xs (cellsOf v) m.ob ob' ts [] (FU.nil hm.kok) ht hx
 rw [List.append_nil] at hg
 obtain ⟨hkd,hl2⟩:=hg.at hl
 obtain ⟨ds',h,b,F,h1,h2,h3,rfl,hw,hF⟩:=PD hm hu hl2
 rw [hn] at h1;cases h1
 have hown:=hm.own k _ hl2 rfl
 have hcl:(cellsOf v).length=ts.length:=H3 htr
 obtain ⟨_,hwk⟩:_∧Win m.s true cs (m.A k).h (m.A k).b (m.A k).F:=by
  rcases hm.obr k _ hl2 with ⟨hh,_⟩ | hh
  ·rw [h2] at hh;cases hh
  ·exact hh
 obtain ⟨ob,F1,g1,g2,g3,g4,rfl⟩:=hw
 have hh:=St.FK g1
 have hgo:sto sz (pt h (b+off)) v m.s=some (undef,m.s.put h (some ⟨CC ob.cells (b+off) (cellsOf v),true⟩)):=dT g1 (g2 rfl) hv (by omega) (by omega)
 have hhF:h∈(m.A k).F:=hF.subset (by simp)
 have hfr: ∀x,x≠h→(m.s.put h (some ⟨CC ob.cells (b+off) (cellsOf v),true⟩)).get x=m.s.get x:=fun x hx=>K6 hx
 have hput:IZ cs pre off ts=GF cs pre (KK ds off ts):=by unfold IZ;rw [hn]
 have hll:(KK ds off ts).length=ds.length:=NZ hle
 have hFn: ∀x∈Fn,x∉(m.A k).F:=hmov.xM hm hg.own hl2 hkd
 obtain ⟨F2,p1,p2,p3⟩:=Win.put (s':=m.s.put h (some ⟨CC ob.cells (b+off) (cellsOf v),true⟩)) (ds':=KK ds off ts) (Fn:=Fn) hwk hown.1 hn h3 hll (fun G hG hGw=>by
  obtain ⟨ob2,G1,r1,r2,r3,r4,rfl⟩:=hGw
  rw [g1] at r1;cases r1
  have hGn:=hG.nodup hown.1
  have hGn1:=List.nodup_cons.1 hGn
  have hsame: ∀x∈G1,(m.s.put h (some ⟨CC ob.cells (b+off) (cellsOf v),true⟩)).get x=m.s.get x:=fun x hx=>hfr x fun he=>hGn1.1 (by rw [←he];exact hx)
  obtain ⟨Fa,Fb,Fc,rfl,t1,t2,t3⟩:=JU r4 off ts.length
  have hsubA: ∀x,x∈Fa∨x∈Fc→x∈(m.A k).F:=fun x hx=>hG.subset (by rcases hx with hx | hx <;> simp [hx])
  have nd1:=List.nodup_append.1 hGn1.2
  have nd2:=List.nodup_append.1 nd1.2.1
  refine ⟨h::(Fa++(Fn++Fc)),⟨_,Fa++(Fn++Fc),KE hh,fun _=>rfl,by rw [hll,FY _ _ _ (by rw [hcl];omega)];exact r3, ?_,rfl⟩, ?_,fun x hx=> ?_,fun x _ hx=>hfr x fun he=>hx (by rw [he];simp)⟩
  ·have:=M9 (Fb:=Fb) (ts':=ts) (us':=cellsOf v) (Fb':=Fn) t1 t3 (HJ _ _ _ (fun x hx=>hfr x fun he=>hFn x hx (by rw [he];exact hhF)) htr) (fun x hx=>hsame x (by simp [hx])) (fun x hx=>hsame x (by simp [hx]))
   rw [hll]
   have e2:((CC ob.cells (b+off) (cellsOf v)).drop b).take ds.length=((ob.cells.drop b).take ds.length).take off++(cellsOf v++((ob.cells.drop b).take ds.length).drop (off+ts.length)):=by
    have hlen:((ob.cells.drop b).take ds.length).length=ds.length:=by rw [List.length_take,List.length_drop];omega
    apply List.ext_getElem?
    intro i
    by_cases hi:i<ds.length
    ·rw [HR _ _ _ _ hi,G9 _ _ _ (by rw [hcl];omega)]
     by_cases h5:i<off
     ·rw [if_neg (by omega),List.getElem?_append_left (by rw [List.length_take];omega),List.getElem?_take_of_lt h5,HR _ _ _ _ hi]
     ·rw [List.getElem?_append_right (by rw [List.length_take];omega)]
      have e3:(((ob.cells.drop b).take ds.length).take off).length=off:=by rw [List.length_take];omega
      rw [e3]
      by_cases h6:i<off+ts.length
      ·rw [if_pos (by omega),List.getElem?_append_left (by omega)]
       congr 1;omega
      ·rw [if_neg (by omega),List.getElem?_append_right (by omega),List.getElem?_drop,HR _ _ _ _ (by omega)]
       congr 1;omega
    ·rw [List.getElem?_eq_none (by rw [List.length_take];omega),List.getElem?_eq_none (by rw [List.length_append,List.length_append,List.length_take,List.length_drop];omega)]
   rw [e2];exact this
  ·refine List.nodup_cons.2 ⟨fun hx=> ?_,List.nodup_append.2 ⟨nd1.1,List.nodup_append.2 ⟨hmov.nd,nd2.2.1,fun x hx y hy he=> ?_⟩,fun x hx y hy he=> ?_⟩⟩
   ·rcases List.mem_append.1 hx with hx | hx
    ·exact hGn1.1 (by simp [hx])
    ·rcases List.mem_append.1 hx with hx | hx
     ·exact hFn h hx hhF
     ·exact hGn1.1 (by simp [hx])
   ·subst he;exact hFn x hx (hsubA x (.inr hy))
   ·subst he
    rcases List.mem_append.1 hy with hy | hy
    ·exact hFn x hy (hsubA x (.inl hx))
    ·exact nd1.2.2 x hx x (by simp [hy]) rfl
  ·rcases List.mem_cons.1 hx with rfl | hx
   ·exact .inl (by simp)
   ·rcases List.mem_append.1 hx with hx | hx
    ·exact .inl (by simp [hx])
    ·rcases List.mem_append.1 hx with hx | hx
     ·exact .inr hx
     ·exact .inl (by simp [hx])) hFn
 have key:=Y5 (C:=C) (B:=B) (kl:=[k]) (aff:=[k]) (o':= .ls true (IZ cs pre off ts)) (a:=⟨false,(m.A k).h,(m.A k).b,F2⟩) (st:= .mu (sto sz (pt h (b+off)) v)) (v:=undef) (e:= .o .w) hm hg hl rfl
  (s':=m.s.put h (some ⟨CC ob.cells (b+off) (cellsOf v),true⟩)) (Nat.le_refl _) (fun x _ _ hx=>hfr x fun he=>hx (by rw [he];exact hhF)) p2 (fun x hx=> ?_) ?_ ?_ hgo ?_ trivial ?_
 ·exact ⟨_,_,key⟩
 ·rcases p3 x hx with hx | hx
  ·exact .inr (.inl hx)
  ·exact .inl (hmov.fr x hx)
 ·intro o2 ho2
  simp only [H6,GY hl,if_true,Option.map_some,HY,Option.some.injEq] at ho2
  subst ho2
  exact ⟨true,cs,hl2,by rw [hput];exact G6 hn hll,by simp only [B5,h2],by simp only [B5],by simp only [B5]⟩
 ·intro hq
  simp at hq
 ·intro hkp
  simp only [HY]
  exact .inr ⟨by simp only [B5],by simp only [B5];rw [hput];exact p1⟩
 ·intro k' o2 ho2 hne x hx
  refine hfr x fun he=> ?_
  subst he
  have:k'≠k:=fun he=>by subst he;simp at hne
  exact hm.dis k k' _ o2 (Ne.symm this) hl2 ho2 rfl x hhF hx
theorem RK {C:Ctx} {B:Bas} {ro:List (List T)} {m:Mst} {ob1:Obs} {dl aff Fn:List Nat} {ts:List T} {us:List Value} {s1:St} {st:Stp} {n e:Nat} (hm:Mem B ro m) (hg:FU ro m.ob ob1 m.nk dl) (hmov:Mov m dl Fn) (htr:TRs s1 true ts us Fn) (hs1:s1.n=m.s.n)
  (hfr: ∀h,h<m.s.n→(∀k∈dl,h∉(m.A k).F)→s1.get h=m.s.get h) (he:0<e) (hl:ts.length=n*e)
  (hgo:B9 C st m.s (sl m.s.n 0 n e) (s1.push ⟨us,true⟩)) (haf: ∀k o,AV ro m.ob k=some o→aff.any (Nat.beq k)=false→ ∀h∈(m.A k).F,s1.get h=m.s.get h):
  Out C B ro m aff [] st (sl m.s.n 0 n e) (.o (.t m.nk e)) ⟨s1.push ⟨us,true⟩,(m.nk, .ls true ts)::ob1,m.nk+1,I5 m.A m.nk ⟨false,m.s.n,0,m.s.n::Fn⟩⟩:=by
 have hFlt: ∀x∈Fn,x<m.s.n:=fun x hx=>by
  obtain ⟨k,hk,hkx⟩:=hmov.fr x hx
  obtain ⟨o,ho,_⟩:=hg.own k hk
  exact (hm.obr k o ho).lt x hkx
 have hpush: ∀h,h<m.s.n→(s1.push ⟨us,true⟩).get h=s1.get h:=fun h hh=>LR (by omega)
 refine T2 hm hg (by rw [St.G3];omega) (fun h hh hd=>by rw [hpush h hh];exact hfr h hh hd) ?_ (fun h hh=> ?_) hgo (fun hkp=> ?_) ?_ (fun k o ho ha h hh=>by rw [hpush h ((hm.obr k o ho).lt h hh)];exact haf k o ho ha h hh)
 ·exact List.nodup_cons.2 ⟨fun hx=>by have:=hFlt _ hx;omega,hmov.nd⟩
 ·rcases List.mem_cons.1 hh with rfl | hh
  ·exact .inr (Nat.le_refl _)
  ·exact .inl (hmov.fr h hh)
 ·refine .inr ⟨by simp only [B5], ?_⟩
  simp only [B5]
  have hul:=H3 htr
  refine ⟨⟨us,true⟩,Fn,by rw [←hs1];exact LZ,fun _=>rfl,by simp;omega, ?_,rfl⟩
  rw [List.drop_zero, ←hul,List.take_length]
  exact HJ _ _ _ (fun x hx=>hpush x (hFlt x hx)) htr
 ·refine ⟨Nat.lt_succ_self _,rfl,he,fun own cs hlk=> .inr ⟨n,by simp only [B5], ?_,by simp only [B5]⟩⟩
  simp only [FZ,if_true,Option.some.injEq,Ob2.ls.injEq] at hlk
  obtain ⟨_,rfl⟩:=hlk
  exact hl
theorem V5 {s:St}: ∀{ks:List CK} {z:List Value} {zt:List T},zTs ks z=some zt→TRs s true zt z []∧zt.length=ks.length
 | [],[],zt,h=>by simp only [zTs,Option.some.injEq] at h;subst h;exact ⟨by simp only [TRs];exact ⟨trivial,trivial⟩,rfl⟩
 | [],_::_,zt,h=>by simp [zTs] at h
 | .c::r,[],zt,h=>by simp [zTs] at h
 | .l e::r,[],zt,h=>by simp [zTs] at h
 | .c::r,v::vs,zt,h=>by
   simp only [zTs] at h
   split at h
   ·rename_i hp
    simp only [Option.map_eq_some_iff] at h
    obtain ⟨y,h1,rfl⟩:=h
    obtain ⟨h2,h3⟩:=V5 h1
    exact ⟨by simp only [TRs];exact ⟨v,vs,[],[],rfl,by simp [TR,hp],h2,rfl⟩,by simp [h3]⟩
   ·cases h
 | .l e::r,v::vs,zt,h=>by
   have hv:v= .slice none 0 0:=by
    cases v <;> try (simp [zTs] at h;done)
    rename_i a n c
    cases a with
    | some a=>simp [zTs] at h
    | none=>cases n with
      | succ n=>simp [zTs] at h
      | zero=>cases c with
        | succ c=>simp [zTs] at h
        | zero=>rfl
   subst hv
   simp only [zTs,Option.map_eq_some_iff] at h
   obtain ⟨y,h1,rfl⟩:=h
   obtain ⟨h2,h3⟩:=V5 h1
   exact ⟨by simp only [TRs];exact ⟨_,vs,[],[],rfl,GA.2 (.inl ⟨rfl,rfl,rfl⟩),h2,rfl⟩,by simp [h3]⟩
theorem dN {s:St} {zt:List T} {z:List Value} (h:TRs s true zt z []): ∀{n:Nat},TRs s true (PO n zt) (L5 n z) []∧(PO n zt).length=n*zt.length
 | 0=>⟨by simp [PO,L5,TRs],by simp [PO]⟩
 | n+1=>by
   obtain ⟨h1,h2⟩:=dN h (n:=n)
   unfold PO L5 at*
   rw [List.replicate_succ,List.flatten_cons,List.replicate_succ,List.flatten_cons]
   exact ⟨KH.2 ⟨_,_,[],[],rfl,h,h1,rfl⟩,by rw [List.length_append,h2,Nat.add_mul];omega⟩
end Go.Proofs.Ytklmcfpgdfibnaa.Eng
namespace Go.Proofs.Ytklmcfpgdfibnaa.Eng
open Go Go.RowKit
set_option linter.unusedVariables false
set_option linter.unusedSimpArgs false
set_option linter.constructorNameAsVariable false
theorem gX {B:Bas} {ro:List (List T)} {m:Mst} {env:DR} {env1:Env} {av:List (Nat×Bool)} (hm:Mem B ro m) (hE:HS ro m env env1) (ha:WX env1 av) {ks:List CK} {sz:Nat} (hks:ks.length=sz): ∀(parts:List (Nat×Operand)) (ps:List (Nat×List E0)) (ts:List T) (ob:Obs) (ts':List T) (ob':Obs) (cs:List Value) (Fn dl:List Nat),
  OO av env sz parts=some ps→FU ro m.ob ob m.nk dl→Mov m dl Fn→TRs m.s true ts cs Fn→aC ks ps ts ob=some (ts',ob')→
  ∃cs' dl' Fn',LS cs (F7 env1 sz parts)=some cs'∧FU ro m.ob ob' m.nk dl'∧Mov m dl' Fn'∧TRs m.s true ts' cs' Fn'∧ts'.length=ts.length
 | [],ps,ts,ob,ts',ob',cs,Fn,dl,hp,hg,hmov,htr,hf=>by
   simp only [OO,Option.some.injEq] at hp;subst hp
   simp only [aC,Option.some.injEq,Prod.mk.injEq] at hf
   obtain ⟨rfl,rfl⟩:=hf
   exact ⟨cs,dl,Fn,rfl,hg,hmov,htr,rfl⟩
 | (i,x)::r,ps,ts,ob,ts',ob',cs,Fn,dl,hp,hg,hmov,htr,hf=>by
   simp only [OO,Option.bind_eq_some_iff,Option.map_eq_some_iff] at hp
   obtain ⟨xs,h1,l,h2,rfl⟩:=hp
   simp only [aC] at hf
   split at hf
   ·rename_i hb
    have hle:=Nat.le_of_ble_eq_true hb
    simp only [Option.bind_eq_some_iff] at hf
    obtain ⟨⟨zs,ob1⟩,h3,hf⟩:=hf
    obtain ⟨hv,hx⟩:=ML h1 (GH hE ha x)
    obtain ⟨dl1,Fb,g1,g2,g3,g4,g5⟩:=kU hm ks xs _ ob ob1 zs dl hg h3 hx
    have hcl:=H3 g2
    have hcs:=H3 htr
    obtain ⟨Fa,Fo,Fc,rfl,t1,t2,t3⟩:=JU htr (i*sz) zs.length
    have nd1:=List.nodup_append.1 hmov.nd
    have nd2:=List.nodup_append.1 nd1.2.1
    have hdis: ∀y∈Fb, ∀z,z∈Fa∨z∈Fc→y≠z:=by
     intro y hy z hz he
     subst he
     obtain ⟨j,hj,hjy⟩:=g3.fr y hy
     obtain ⟨k,hk,hky⟩:=hmov.fr y (by rcases hz with hz | hz <;> simp [hz])
     obtain ⟨o1,ho1,how1⟩:=g1.own j (by simp [hj])
     obtain ⟨o2,ho2,_⟩:=g1.own k (by simp [hk])
     exact hm.dis j k o1 o2 (fun he=>g4 j hj (he ▸ hk)) ho1 ho2 how1 y hjy hky
    have hnew:Mov m (dl1++dl) (Fa++(Fb++Fc)):=by
     refine ⟨List.nodup_append.2 ⟨nd1.1,List.nodup_append.2 ⟨g3.nd,nd2.2.1,fun y hy z hz=>hdis y hy z (.inr hz)⟩,fun y hy z hz he=> ?_⟩,fun y hy=> ?_⟩
     ·rcases List.mem_append.1 hz with hz | hz
      ·exact hdis z hz y (.inl hy) he.symm
      ·exact nd1.2.2 y hy z (by simp [hz]) he
     ·rcases List.mem_append.1 hy with hy | hy
      ·obtain ⟨k,hk,hky⟩:=hmov.fr y (by simp [hy]);exact ⟨k,by simp [hk],hky⟩
      ·rcases List.mem_append.1 hy with hy | hy
       ·obtain ⟨k,hk,hky⟩:=g3.fr y hy;exact ⟨k,by simp [hk],hky⟩
       ·obtain ⟨k,hk,hky⟩:=hmov.fr y (by simp [hy]);exact ⟨k,by simp [hk],hky⟩
    have htr':TRs m.s true (KK ts (i*sz) zs) (CC cs (i*sz) (cellsOf (ev env1 x))) (Fa++(Fb++Fc)):=by
     have:=M9 (Fb:=Fo) t1 t3 g2 (fun _ _=>rfl) (fun _ _=>rfl)
     unfold KK CC
     rw [List.append_assoc,hcl]
     exact this
    obtain ⟨cs',dl',Fn',k1,k2,k3,k4,k5⟩:=gX hm hE ha hks r l _ ob1 ts' ob' _ _ _ h2 g1 hnew htr' hf
    refine ⟨cs',dl',Fn', ?_,k2,k3,k4,by rw [k5,NZ (by omega)]⟩
    have hz:(cellsOf (ev env1 x)).length=sz:=by omega
    simp only [F7,LS,hv,hz,beq_self_eq_true,Bool.and_self,Bool.true_and,decide_eq_true (show i*sz+sz≤cs.length by omega),if_true]
    exact k1
   ·cases hf
theorem pK {C:Ctx} {B:Bas} {ro:List (List T)} {m:Mst} {ob1:Obs} {dl aff:List Nat} {st:Stp} {e:Nat} (hm:Mem B ro m) (hg:FU ro m.ob ob1 m.nk dl) (he:0<e) (hgo:B9 C st m.s nl m.s):
  Out C B ro m aff [] st nl (.o (.t m.nk e)) ⟨m.s,(m.nk, .ls true [])::ob1,m.nk+1,I5 m.A m.nk ⟨true,0,0,[]⟩⟩:=by
 refine T2 hm hg (Nat.le_refl _) (fun h hh _=>rfl) List.nodup_nil (fun h hh=>by simp at hh) hgo (fun hkp=> ?_) ?_ (fun _ _ _ _ _ _=>rfl)
 ·exact .inl ⟨by simp only [B5],rfl,by simp only [B5]⟩
 ·exact ⟨Nat.lt_succ_self _,rfl,he,fun own cs hlk=> .inl ⟨rfl,by simp only [B5]⟩⟩
theorem X8 {es:List T} {off:Nat} (h:off<es.length) {t:T}:KK es off [t]=es.set off t:=(GR _ _ _ h).symm
theorem Win.out {s:St} {off e:Nat} {ds es:List T}: ∀{pre:List Nat} {cs:List T} {h b:Nat} {F:List Nat},Win s true cs h b F→F.Nodup→Eng.node cs pre=some es→es[off]? =some (.l e ds)→
  ∃h' b' ob u Fb F2,spot s h b pre=some (h',b')∧s.get h'=some ob∧ob.cells[b'+off]? =some u∧TR s true (.l e ds) u Fb∧Win s true (GF cs pre (KK es off [.x])) h b F2∧(∀x∈F2,x∈F∧x∉Fb)∧(∀x∈Fb,x∈F)∧F2.Nodup∧Fb.Nodup
 | [],cs,h,b,F,hw,hnd,hn,hi=>by
   simp only [Eng.node,Option.some.injEq] at hn;subst hn
   obtain ⟨ob,F1,h1,h2,h3,h4,rfl⟩:=hw
   have hlt:=(List.getElem?_eq_some_iff.1 hi).1
   obtain ⟨Fa,Fb,Fc,rfl,k1,k2,k3⟩:=JU h4 off 1
   have e1:(cs.drop off).take 1=[.l e ds]:=by rw [List.take_one,List.head?_drop,hi];rfl
   rw [e1] at k2
   obtain ⟨u,hu,ht⟩:=GP.1 k2
   have hu':ob.cells[b+off]? =some u:=by
    rw [←HR _ _ _ _ hlt]
    rw [List.take_one,List.head?_drop] at hu
    cases hx:((ob.cells.drop b).take cs.length)[off]? with
    | none=>rw [hx] at hu;simp at hu
    | some y=>rw [hx] at hu;simp at hu;rw [hu]
   have hsl:tC u=true:=by rcases GA.1 ht with ⟨rfl,_⟩ | ⟨_,_,_,rfl,_⟩ <;> rfl
   have hnd1:=List.nodup_cons.1 hnd
   have nda:=List.nodup_append.1 hnd1.2
   have ndb:=List.nodup_append.1 nda.2.1
   refine ⟨h,b,ob,u,Fb,h::(Fa++([]++Fc)),rfl,h1,hu',ht,⟨ob,_,h1,h2, ?_, ?_,rfl⟩,fun x hx=> ?_,fun x hx=>by simp [hx], ?_,ndb.1⟩
   ·simp only [GF];rw [X8 hlt,List.length_set];exact h3
   ·simp only [GF]
    rw [X8 hlt,List.length_set]
    have hval:(ob.cells.drop b).take cs.length=((ob.cells.drop b).take cs.length).take off++([u]++((ob.cells.drop b).take cs.length).drop (off+1)):=by
     conv=>lhs;rw [←List.take_append_drop off ((ob.cells.drop b).take cs.length)]
     congr 1
     rw [←List.drop_drop]
     conv=>lhs;rw [←List.take_append_drop 1 (((ob.cells.drop b).take cs.length).drop off)]
     rw [hu]
    rw [hval,GR _ _ _ hlt]
    exact M9 (Fb:=Fb) (ts':=[.x]) (us':=[u]) (Fb':=[]) k1 k3 (GP.2 ⟨_,rfl,by simp only [TR];exact ⟨hsl,trivial⟩⟩) (fun _ _=>rfl) (fun _ _=>rfl)
   ·rcases List.mem_cons.1 hx with rfl | hx
    ·exact ⟨by simp,fun hb=>hnd1.1 (by simp [hb])⟩
    ·rcases List.mem_append.1 hx with hx | hx
     ·exact ⟨by simp [hx],fun hb=>nda.2.2 x hx x (by simp [hb]) rfl⟩
     ·have hx:x∈Fc:=by simpa using hx
      exact ⟨by simp [hx],fun hb=>ndb.2.2 x hb x hx rfl⟩
   ·refine List.nodup_cons.2 ⟨fun hx=>hnd1.1 ?_,List.nodup_append.2 ⟨nda.1,by simpa using ndb.2.1,fun x hx y hy he=> ?_⟩⟩
    ·rcases List.mem_append.1 hx with hx | hx
     ·simp [hx]
     ·have hx:h∈Fc:=by simpa using hx
      simp [hx]
    ·have hy:y∈Fc:=by simpa using hy
     exact nda.2.2 x hx y (by simp [hy]) he
 | i::r,cs,h,b,F,hw,hnd,hn,hi=>by
   simp only [Eng.node] at hn
   obtain ⟨ob,F1,h1,h2,h3,h4,rfl⟩:=hw
   split at hn
   ·rename_i e1 es1 hj
    have hlt:=(List.getElem?_eq_some_iff.1 hj).1
    obtain ⟨Fa,Fm,Fc,rfl,k1,k2,k3⟩:=JU h4 i 1
    have e2:(cs.drop i).take 1=[.l e1 es1]:=by rw [List.take_one,List.head?_drop,hj];rfl
    rw [e2] at k2
    obtain ⟨u,hu,ht⟩:=GP.1 k2
    have hu':ob.cells[b+i]? =some u:=by
     rw [←HR _ _ _ _ hlt]
     rw [List.take_one,List.head?_drop] at hu
     cases hx:((ob.cells.drop b).take cs.length)[i]? with
     | none=>rw [hx] at hu;simp at hu
     | some y=>rw [hx] at hu;simp at hu;rw [hu]
    have hnd1:=List.nodup_cons.1 hnd
    have nda:=List.nodup_append.1 hnd1.2
    have ndb:=List.nodup_append.1 nda.2.1
    rcases GA.1 ht with ⟨rfl,rfl,_⟩ | ⟨x1,b1,n1,rfl,hlen,hw1⟩
    ·cases r with
     | nil=>simp only [Eng.node,Option.some.injEq] at hn;subst hn;simp at hi
     | cons j r=>simp [Eng.node] at hn
    ·obtain ⟨h',b',ob',u',Fb,F2,g1,g2,g3,g4,g5,g6,g7,g8,g9⟩:=Win.out hw1 ndb.1 hn hi
     refine ⟨h',b',ob',u',Fb,h::(Fa++(F2++Fc)),by simp only [spot,h1,hu',sl];exact g1,g2,g3,g4,⟨ob,_,h1,h2, ?_, ?_,rfl⟩,fun x hx=> ?_,fun x hx=>by simp [g7 x hx], ?_,g9⟩
     ·simp only [GF,hj,List.length_set];exact h3
     ·simp only [GF,hj,List.length_set]
      rw [GR _ _ _ hlt]
      have hval:(ob.cells.drop b).take cs.length=((ob.cells.drop b).take cs.length).take i++([sl x1 b1 n1 e1]++((ob.cells.drop b).take cs.length).drop (i+1)):=by
       conv=>lhs;rw [←List.take_append_drop i ((ob.cells.drop b).take cs.length)]
       congr 1
       rw [←List.drop_drop]
       conv=>lhs;rw [←List.take_append_drop 1 (((ob.cells.drop b).take cs.length).drop i)]
       rw [hu]
      rw [hval]
      have hle:off<es.length:=(List.getElem?_eq_some_iff.1 hi).1
      exact M9 (Fb:=Fm) (ts':=[.l e1 (GF es1 r (KK es off [.x]))]) k1 k3 (GP.2 ⟨_,rfl,GA.2 (.inr ⟨x1,b1,n1,rfl,by rw [G6 hn (by rw [X8 hle,List.length_set])];exact hlen,g5⟩)⟩) (fun _ _=>rfl) (fun _ _=>rfl)
     ·rcases List.mem_cons.1 hx with rfl | hx
      ·exact ⟨by simp,fun hb=>hnd1.1 (by simp [g7 _ hb])⟩
      ·rcases List.mem_append.1 hx with hx | hx
       ·exact ⟨by simp [hx],fun hb=>nda.2.2 x hx x (by simp [g7 x hb]) rfl⟩
       ·rcases List.mem_append.1 hx with hx | hx
        ·exact ⟨by simp [(g6 x hx).1],(g6 x hx).2⟩
        ·exact ⟨by simp [hx],fun hb=>ndb.2.2 x (g7 x hb) x hx rfl⟩
     ·refine List.nodup_cons.2 ⟨fun hx=>hnd1.1 ?_,List.nodup_append.2 ⟨nda.1,List.nodup_append.2 ⟨g8,ndb.2.1,fun x hx y hy he=> ?_⟩,fun x hx y hy he=> ?_⟩⟩
      ·rcases List.mem_append.1 hx with hx | hx
       ·simp [hx]
       ·rcases List.mem_append.1 hx with hx | hx
        ·simp [(g6 _ hx).1]
        ·simp [hx]
      ·exact ndb.2.2 x (g6 x hx).1 y hy he
      ·rcases List.mem_append.1 hy with hy | hy
       ·exact nda.2.2 x hx y (by simp [(g6 y hy).1]) he
       ·exact nda.2.2 x hx y (by simp [hy]) he
   ·cases hn
theorem jR {off:Nat} {e:Nat} {ds es:List T} {cs:List T} {pre:List Nat} (h:Eng.node cs pre=some es) (hi:es[off]? =some (.l e ds)):Eng.node cs (pre++[off])=some ds:=V3 h hi
theorem bE {s:St}: ∀{pre:List Nat} {h b h' b' off:Nat} {ob:Ob},spot s h b pre=some (h',b')→s.get h'=some ob→ob.cells[b'+off]? =some nl→spot s h b (pre++[off])=none
 | [],h,b,h',b',off,ob,hs,hg,hc=>by
   simp only [spot,Option.some.injEq,Prod.mk.injEq] at hs
   obtain ⟨rfl,rfl⟩:=hs
   simp only [List.nil_append,spot,hg,hc,nl]
 | i::r,h,b,h',b',off,ob,hs,hg,hc=>by
   simp only [spot] at hs
   split at hs
   ·rename_i ob1 h1
    split at hs
    ·rename_i x y n e h2
     simp only [List.cons_append,spot,h1,h2]
     exact bE hs hg hc
    ·cases hs
   ·cases hs
theorem pI {B:Bas} {ro:List (List T)} {m:Mst} (hm:Mem B ro m) {k off e:Nat} {pre:List Nat} {cs ds:List T} {u:Value} (hl:AV ro m.ob k=some (.ls true cs)) (hc:cell cs pre off=some (.l e ds)) (hu:E0R ro m (.n k (pre++[off]) e) u):
  (m.A k).nil=false∧ ∃Fb F2,TR m.s true (.l e ds) u Fb∧Win m.s true (IZ cs pre off [.x]) (m.A k).h (m.A k).b F2∧(∀x∈F2,x∈(m.A k).F∧x∉Fb)∧(∀x∈Fb,x∈(m.A k).F)∧F2.Nodup∧Fb.Nodup∧(IZ cs pre off [.x]).length=cs.length:=by
 obtain ⟨es,hn,hi⟩: ∃es,Eng.node cs pre=some es∧es[off]? =some (.l e ds):=by
  unfold cell at hc
  cases hx:Eng.node cs pre with
  | none=>rw [hx] at hc;cases hc
  | some es=>rw [hx] at hc;exact ⟨es,rfl,hc⟩
 have hle:off<es.length:=(List.getElem?_eq_some_iff.1 hi).1
 have hput:IZ cs pre off [.x]=GF cs pre (KK es off [.x]):=by unfold IZ;rw [hn]
 rcases hm.obr k _ hl with ⟨_,rfl,_⟩ | ⟨hnil,hw⟩
 ·cases pre with
  | nil=>simp only [Eng.node,Option.some.injEq] at hn;subst hn;simp at hi
  | cons j r=>simp [Eng.node] at hn
 ·refine ⟨hnil, ?_⟩
  obtain ⟨h',b',ob',u',Fb,F2,g1,g2,g3,g4,g5,g6,g7,g8,g9⟩:=hw.out (hm.own k _ hl rfl).1 hn hi
  obtain ⟨_,_,hpos,hr⟩:=hu
  obtain ⟨ds',hd,hr⟩:=hr _ _ hl
  rw [jR hn hi] at hd;cases hd
  have hlen:(IZ cs pre off [.x]).length=cs.length:=by rw [hput];exact G6 hn (by rw [X8 hle,List.length_set])
  rcases hr with ⟨rfl,rfl⟩ | ⟨n,h,b,q1,q2,q3,rfl⟩
  ·exact ⟨[],F2,GA.2 (.inl ⟨rfl,rfl,rfl⟩),by rw [hput];exact g5,fun x hx=>⟨(g6 x hx).1,by simp⟩,fun x hx=>by simp at hx,g8,List.nodup_nil,hlen⟩
  ·refine ⟨Fb,F2, ?_,by rw [hput];exact g5,g6,g7,g8,g9,hlen⟩
   rcases GA.1 g4 with ⟨rfl,rfl,_⟩ | ⟨h2,b2,n2,rfl,l2,w2⟩
   ·rw [bE g1 g2 g3] at q2;cases q2
   ·rw [V8 g1 g2 g3] at q2
    cases q2
    have:n2=n:=Nat.eq_of_mul_eq_mul_right hpos (by rw [←l2, ←q3])
    subst this
    exact g4
theorem lL {C:Ctx} {B:Bas} {ro:List (List T)} {m:Mst} {k off e:Nat} {pre:List Nat} {cs ds:List T} {u:Value} {st:Stp} (hm:Mem B ro m) (hl0:BT m.ob k=some (.ls true cs)) (hc:cell cs pre off=some (.l e ds)) (hu:E0R ro m (.n k (pre++[off]) e) u)
  (hgo:B9 C st m.s (sl m.s.n 0 1 1) (m.s.push ⟨[u],true⟩)):
  ∃A',Out C B ro m [] [k] st (sl m.s.n 0 1 1) (.o (.t m.nk 1)) ⟨m.s.push ⟨[u],true⟩,(m.nk, .ls true [.l e ds])::EB [k] (GC m.ob k (.ls true (IZ cs pre off [.x]))),m.nk+1,A'⟩:=by
 have hl:=BV (ro:=ro) hl0
 obtain ⟨hnil,Fb,F2,t1,t2,t3,t4,t5,t6,t7⟩:=pI hm hl hc hu
 obtain ⟨A',hA⟩: ∃A',A'=I5 (I5 m.A k ⟨false,(m.A k).h,(m.A k).b,F2⟩) m.nk ⟨false,m.s.n,0,m.s.n::Fb⟩:=⟨_,rfl⟩
 have hk:k<m.nk:=NY hm.kok hl
 have hro:ro.length≤k:=(hm.kok.lt _ (HO hl0)).1
 have An:A' m.nk=⟨false,m.s.n,0,m.s.n::Fb⟩:=by rw [hA,B5]
 have Ak:A' k=⟨false,(m.A k).h,(m.A k).b,F2⟩:=by rw [hA,LV (by omega),B5]
 have Ao: ∀j,j≠k→j≠m.nk→A' j=m.A j:=fun j h1 h2=>by rw [hA,LV h2,LV h1]
 obtain ⟨ob',hob⟩: ∃ob',ob'=(m.nk,Ob2.ls true [.l e ds])::EB [k] (GC m.ob k (.ls true (IZ cs pre off [.x]))):=⟨_,rfl⟩
 have lk: ∀j,AV ro ob' j=if m.nk=j then some (.ls true [.l e ds]) else if k=j then some (.ls true (IZ cs pre off [.x])) else (AV ro m.ob j).map (HY [k]):=fun j=>by
  rw [hob,FZ]
  by_cases h1:m.nk=j
  ·rw [if_pos h1,if_pos h1]
  ·rw [if_neg h1,if_neg h1,H6,GY hl0]
   by_cases h2:k=j
   ·rw [if_pos h2,if_pos h2];rfl
   ·rw [if_neg h2,if_neg h2]
 have hFlt: ∀x∈(m.A k).F,x<m.s.n:=(hm.obr k _ hl).lt
 have hpush: ∀h,h<m.s.n→(m.s.push ⟨[u],true⟩).get h=m.s.get h:=fun h hh=>LR hh
 have none_of: ∀j,j<m.nk→ ¬(j≠k∧ ∃o,AV ro m.ob j=some o)→j≠k→AV ro ob' j=none:=fun j hj hn hne=>by
  rw [lk,if_neg (by omega),if_neg (Ne.symm hne)]
  cases hx:AV ro m.ob j with
  | none=>rfl
  | some o=>exact absurd ⟨hne,o,hx⟩ hn
 have two: ∀j o',AV ro ob' j=some o'→ ¬(j≠k∧ ∃o,AV ro m.ob j=some o)→j=k∨j=m.nk:=fun j o' ho hn=>by
  rw [lk] at ho
  by_cases h1:m.nk=j
  ·exact .inr h1.symm
  ·rw [if_neg h1] at ho
   by_cases h2:k=j
   ·exact .inl h2.symm
   ·rw [if_neg h2] at ho
    cases hx:AV ro m.ob j with
    | none=>rw [hx] at ho;cases ho
    | some o=>exact absurd ⟨Ne.symm h2,o,hx⟩ hn
 have hst:Step B ro m ⟨m.s.push ⟨[u],true⟩,ob',m.nk+1,A'⟩ [k] (fun j=>j≠k∧ ∃o,AV ro m.ob j=some o):=by
  refine ⟨by rw [St.G3];omega,Nat.le_succ _, ?_,fun j hj=> ?_,fun h hh _=>hpush h hh,fun j hj hn=> ?_,fun j hj hn hkl=> ?_,fun j o' ho hn=> ?_,fun i j o1 o2 hne h1 h2 n1 n2=> ?_⟩
  ·rw [hob];exact hm.kok.set.kill.cons
  ·obtain ⟨hne,o,ho⟩:=hj
   have hlt:=NY hm.kok ho
   refine ⟨o,ho, ?_,Ao j hne (by omega)⟩
   show AV ro ob' j=_
   rw [lk,if_neg (by omega),if_neg (Ne.symm hne),ho];rfl
  ·by_cases hne:j=k
   ·subst hne
    intro o' ho'
    have ho':AV ro ob' j=some o':=ho'
    rw [lk,if_neg (by omega),if_pos rfl] at ho'
    cases ho'
    exact ⟨true,cs,hl,t7,by simp only [Ak,hnil],by simp only [Ak],by simp only [Ak]⟩
   ·intro o' ho'
    have ho':AV ro ob' j=some o':=ho'
    rw [none_of j hj hn hne] at ho';cases ho'
  ·have hne:j≠k:=fun he=>by subst he;simp at hkl
   intro own cs1 own' cs2 _ h2
   have h2:AV ro ob' j=_:=h2
   rw [none_of j hj hn hne] at h2;cases h2
  ·rcases two j o' ho hn with rfl | rfl
   ·show (A' j).F.Nodup∧ ∀h∈(A' j).F,_
    rw [Ak]
    exact ⟨t5,fun h hh=> .inl ⟨j,_,hl,fun hu=>hu.1 rfl,rfl,(t3 h hh).1⟩⟩
   ·show (A' m.nk).F.Nodup∧ ∀h∈(A' m.nk).F,_
    rw [An]
    refine ⟨List.nodup_cons.2 ⟨fun hx=>by have:=hFlt _ (t4 _ hx);omega,t6⟩,fun h hh=> ?_⟩
    rcases List.mem_cons.1 hh with rfl | hh
    ·exact .inr (Nat.le_refl _)
    ·exact .inl ⟨k,_,hl,fun hu=>hu.1 rfl,rfl,t4 h hh⟩
  ·show ∀h∈(A' i).F,h∉(A' j).F
   rcases two i o1 h1 n1 with rfl | rfl
   ·rcases two j o2 h2 n2 with rfl | rfl
    ·exact absurd rfl hne
    ·rw [Ak,An]
     intro h hh hx
     rcases List.mem_cons.1 hx with rfl | hx
     ·have:=hFlt _ (t3 _ hh).1;omega
     ·exact (t3 h hh).2 hx
   ·rcases two j o2 h2 n2 with rfl | rfl
    ·rw [Ak,An]
     intro h hx hh
     rcases List.mem_cons.1 hx with rfl | hx
     ·have:=hFlt _ (t3 _ hh).1;omega
     ·exact (t3 h hh).2 hx
    ·exact absurd rfl hne
 have hkp:=hst.kp hm
 have hmem:Mem B ro ⟨m.s.push ⟨[u],true⟩,ob',m.nk+1,A'⟩:=hst.mem hm fun j o' ho hn=>by
  have ho':AV ro ob' j=some o':=ho
  rw [lk] at ho'
  rcases two j o' ho hn with rfl | rfl
  ·rw [if_neg (by omega),if_pos rfl] at ho'
   cases ho'
   refine .inr ⟨by show (A' j).nil=false;rw [Ak], ?_⟩
   show Win _ true _ (A' j).h (A' j).b (A' j).F
   rw [Ak]
   exact t2.frame fun x hx=>hpush x (hFlt x (t3 x hx).1)
  ·rw [if_pos rfl] at ho'
   cases ho'
   refine .inr ⟨by show (A' m.nk).nil=false;rw [An], ?_⟩
   show Win _ true _ (A' m.nk).h (A' m.nk).b (A' m.nk).F
   rw [An]
   exact ⟨⟨[u],true⟩,Fb,LZ,fun _=>rfl,by simp,GP.2 ⟨u,rfl,aP _ _ _ (fun x hx=>hpush x (hFlt x (t4 x hx))) t1⟩,rfl⟩
 rw [hob] at hkp hmem lk
 refine ⟨A',hgo,hmem,hkp, ?_,fun j o ho _ h hh=>hpush h ((hm.obr j o ho).lt h hh),by show m.s.n≤(m.s.push _).n;rw [St.G3];omega,fun j hj=>Ao j (by omega) (by have:=hm.kok.ro;omega)⟩
 refine ⟨Nat.lt_succ_self _,rfl,by decide,fun own cs1 hlk=> .inr ⟨1,by show (A' m.nk).nil=false;rw [An], ?_,by show _=sl (A' m.nk).h (A' m.nk).b 1 1;rw [An]⟩⟩
 have hlk:AV ro _ m.nk=_:=hlk
 rw [lk,if_pos rfl] at hlk
 cases hlk
 rfl
theorem e6: ∀{l p:List Nat} {o:Nat},j8 l=some (p,o)→l=p++[o]
 | [],p,o,h=>by simp [j8] at h
 | i::r,p,o,h=>by
   simp only [j8] at h
   split at h
   ·rename_i hr
    cases h
    cases r with
    | nil=>rfl
    | cons j r=>
      simp only [j8] at hr
      split at hr <;> cases hr
   ·rename_i p' o' hr
    cases h
    rw [e6 hr];rfl
theorem mK {len:Nat} {ks:List CK} {ps:List (Nat×List E0)} {ob:Obs} {k off e:Nat} {cs:List T} {pre:List Nat} (h:lB len ks ps ob=some (k,cs,pre,off,e)):len=1∧ks=[.l e]∧ps=[(0,[.n k (pre++[off]) e])]∧BT ob k=some (.ls true cs):=by
 unfold lB at h
 split at h
 ·split at h
  ·rename_i hb hl hs
   cases h
   simp only [Bool.and_eq_true] at hb
   have e1:=Nat.eq_of_beq_eq_true hb.1
   have e2:=Nat.eq_of_beq_eq_true hb.2
   subst e1
   exact ⟨e2,rfl,by rw [e6 hs],hl⟩
  ·cases h
 ·cases h
theorem aF {s:St} {o:Bool}: ∀{c:List T} {us:List Value} {F:List Nat},flat c=true→TRs s o c us F→TRs s true c us []
 | [],us,F,_,h=>by simp only [TRs] at h ⊢;exact ⟨h.1,trivial⟩
 | .c v::c,us,F,hf,h=>by
   simp only [TRs] at h ⊢
   obtain ⟨u,us',F1,F2,rfl,h1,h2,rfl⟩:=h
   simp only [TR] at h1
   exact ⟨u,us',[],[],rfl,by simp [TR,h1.1,h1.2.1],aF (by simp only [flat,List.all_cons,isC,Bool.true_and] at hf;exact hf) h2,rfl⟩
 | .l e cs::c,us,F,hf,h=>by simp [flat,isC] at hf
 | .x::c,us,F,hf,h=>by simp [flat,isC] at hf
theorem eR {ro:List (List T)} {ob ob1:Obs} {nk:Nat} {dl:List Nat} (hg:FU ro ob ob1 nk dl) {x:E0} {e:Nat} {c:List T} (h:DA ro ob1 x e=some c):DA ro ob x e=some c∧ ∀k,NR x=some k→k∉dl:=by
 have key: ∀k o,AV ro ob1 k=some o→AV ro ob k=some o∧k∉dl:=fun k o hk=>by
  rw [hg.look] at hk
  split at hk
  ·cases hk
  ·exact ⟨hk,by assumption⟩
 cases x with
 | z=>exact ⟨h,fun k hk=>by simp [NR] at hk⟩
 | t k e'=>
   simp only [DA] at h ⊢
   split at h
   ·rename_i hb;split at h
    ·rename_i own cs hl
     obtain ⟨h1,h2⟩:=key k _ hl
     simp only [hb,h1]
     exact ⟨h,fun k' hk=>by simp only [NR,Option.some.injEq] at hk;subst hk;exact h2⟩
    ·cases h
   ·cases h
 | s k pre off n e'=>
   simp only [DA] at h ⊢
   split at h
   ·rename_i hb;split at h
    ·rename_i own cs hl
     obtain ⟨h1,h2⟩:=key k _ hl
     simp only [hb,h1]
     exact ⟨h,fun k' hk=>by simp only [NR,Option.some.injEq] at hk;subst hk;exact h2⟩
    ·cases h
   ·cases h
 | n k pre e'=>
   simp only [DA] at h ⊢
   split at h
   ·rename_i hb;split at h
    ·rename_i own cs hl
     obtain ⟨h1,h2⟩:=key k _ hl
     simp only [hb,h1]
     exact ⟨h,fun k' hk=>by simp only [NR,Option.some.injEq] at hk;subst hk;exact h2⟩
    ·cases h
   ·cases h
 | _=>simp [DA] at h
theorem jP {B:Bas} {ro:List (List T)} {m:Mst} (hm:Mem B ro m) {a:E0} {sz n:Nat} {c:List T} {ob1:Obs} {aff:List Nat} {u:Value} (hr:E0R ro m a u) (h:OH m.ob sz a=some (c,n,ob1,aff)):
  FU ro m.ob ob1 m.nk aff∧c.length=n*sz∧((u=nl∧n=0∧c=[])∨ ∃x b0 F k,aff=[k]∧u=sl x b0 n sz∧Win m.s true c x b0 F∧F.Sublist (m.A k).F∧(m.A k).F.Nodup):=by
 cases a with
 | z=>
   simp only [OH,Option.some.injEq,Prod.mk.injEq] at h
   obtain ⟨rfl,rfl,rfl,rfl⟩:=h
   exact ⟨FU.nil hm.kok,by simp, .inl ⟨hr,rfl,rfl⟩⟩
 | t k e=>
   simp only [OH] at h
   split at h
   ·rename_i c0 hb hl
    have:=Nat.eq_of_beq_eq_true hb;subst this
    simp only [Option.some.injEq,Prod.mk.injEq] at h
    obtain ⟨rfl,rfl,rfl,rfl⟩:=h
    have hl2:=BV (ro:=ro) hl
    have hc:=JN (e:=e) (n:=cnt e c0) (c:=c0) hm hr (by simp only [DA,hb,hl2]) (by simp only [H0,hl2])
    refine ⟨(FU.nil hm.kok).del hl rfl,hc.len, ?_⟩
    rcases hc.at_ with hc | ⟨x,b,F,own,rfl,hw,k',hk,hs⟩
    ·exact .inl hc
    ·simp only [NR,Option.some.injEq] at hk;subst hk
     have hown:=(hm.own k _ hl2 rfl).1
     rcases hm.obr k _ hl2 with ⟨h1,h2,_⟩ | ⟨h1,hw2⟩
     ·obtain ⟨_,_,_,hr⟩:=hr
      rcases hr _ _ hl2 with ⟨hh,_⟩ | ⟨_,hh,_⟩
      ·cases hh
      ·rw [h1] at hh;cases hh
     ·obtain ⟨_,_,_,hr⟩:=hr
      rcases hr _ _ hl2 with ⟨hh,_⟩ | ⟨n',_,hn',hh⟩
      ·cases hh
      ·cases hh
       exact .inr ⟨_,_,_,k,rfl,rfl,hw2,List.Sublist.refl _,hown⟩
   ·cases h
 | s k pre off n' e=>
   cases pre with
   | cons i r=>simp [OH] at h
   | nil=>
   simp only [OH] at h
   split at h
   ·rename_i c0 hb hl
    have:=Nat.eq_of_beq_eq_true hb;subst this
    simp only [Option.some.injEq,Prod.mk.injEq] at h
    obtain ⟨rfl,rfl,rfl,rfl⟩:=h
    have hl2:=BV (ro:=ro) hl
    have hc:=JN (e:=e) (n:=n') (c:=GB c0 [] off (n'*e)) hm hr (by simp only [DA,hb,hl2]) (by simp only [H0,hl2])
    refine ⟨(FU.nil hm.kok).del hl rfl,hc.len, ?_⟩
    have hown:=(hm.own k _ hl2 rfl).1
    obtain ⟨_,_,hr⟩:=hr
    rcases hr _ _ hl2 with ⟨rfl,rfl⟩ | ⟨ds,h,b,h1,h2,h3,h4,rfl⟩
    ·rcases hc.at_ with hc | ⟨x,b,F,own,hh,_⟩
     ·exact .inl hc
     ·cases hh
    ·right
     obtain ⟨F,hw,hF⟩:=hm.node hl2 h3 h1 h4
     obtain ⟨F',hw',hF'⟩:=hw.sub h2
     have hsub:GB c0 [] off (n'*e)=(ds.drop off).take (n'*e):=by unfold GB;rw [h1]
     rw [hsub]
     exact ⟨h,b+off,F',k,rfl,rfl,hw',hF'.trans hF,hown⟩
   ·cases h
 | _=>simp [OH] at h
theorem iS {B:Bas} {ro:List (List T)} {m:Mst} (hm:Mem B ro m) {x:E0} {sz mm:Nat} {c:List T} {ob1 ob2:Obs} {dl:List Nat} {ks:List CK} {u:Value} (hr:E0R ro m x u) (hg:FU ro m.ob ob1 m.nk dl) (hn:H0 ro m.ob x=some mm) (h:ZC ro ob1 ks x sz=some (c,ob2)) (hf:bA ks=true→flat c=true):
  ∃dl2 Fn us,FU ro m.ob ob2 m.nk (dl2++dl)∧m.s.got sz u=some us∧TRs m.s true c us Fn∧Mov m dl2 Fn∧(∀k∈dl2,k∉dl)∧c.length=mm*sz∧(u=nl∨ ∃x b k o,u=sl x b mm sz∧k∉dl∧AV ro m.ob k=some o∧(x∈(m.A k).F)):=by
 have hblk: ∀{k:Option Nat},dI m k sz mm c u→(∀k',k=some k'→k'∉dl∧ ∃o,AV ro m.ob k'=some o)→(u=nl∨ ∃x b k o,u=sl x b mm sz∧k∉dl∧AV ro m.ob k=some o∧(x∈(m.A k).F)):=by
  intro k hc hk
  rcases hc.at_ with ⟨h1,_⟩ | ⟨y,b,F,own,h1,hw,k',rfl,hs⟩
  ·exact .inl h1
  ·obtain ⟨h2,o,h3⟩:=hk k' rfl
   obtain ⟨_,_,_,_,_,_,rfl⟩:=hw
   exact .inr ⟨y,b,k',o,h1,h2,h3,hs.subset (by simp)⟩
 have hroot: ∀{e:Nat} {c:List T} k',DA ro m.ob x e=some c→NR x=some k'→ ∃o,AV ro m.ob k'=some o:=by
  intro e c k' hc hk
  cases x <;> simp only [NR,reduceCtorEq,Option.some.injEq] at hk <;> subst hk <;> simp only [DA] at hc <;> (split at hc <;> try cases hc) <;> (split at hc <;> try cases hc) <;> exact ⟨_,by assumption⟩
 unfold ZC at h
 split at h
 ·rename_i ho
  simp only [Option.map_eq_some_iff,Prod.mk.injEq] at h
  obtain ⟨c',h1,rfl,rfl⟩:=h
  obtain ⟨h2,h3⟩:=eR hg h1
  have hc:=JN hm hr h2 hn
  obtain ⟨us,F,own,h4,h5⟩:=hc.got
  exact ⟨[],[],us,hg,h4,aF (hf ho) h5,Mov.nil m,fun k hk=>by simp at hk,hc.len,hblk hc fun k' hk=>⟨h3 k' hk,hroot k' h2 hk⟩⟩
 ·split at h
  ·simp only [Option.some.injEq,Prod.mk.injEq] at h
   obtain ⟨rfl,rfl⟩:=h
   simp only [H0,Option.some.injEq] at hn;subst hn
   have:u=nl:=hr
   subst this
   exact ⟨[],[],[],hg,rfl,by simp only [TRs];exact ⟨trivial,trivial⟩,Mov.nil m,fun k hk=>by simp at hk,by simp, .inl rfl⟩
  ·rename_i k e
   split at h
   ·rename_i c0 hb hl
    have:=Nat.eq_of_beq_eq_true hb;subst this
    simp only [Option.some.injEq,Prod.mk.injEq] at h
    obtain ⟨rfl,rfl⟩:=h
    obtain ⟨hkd,hkm⟩:=hg.at hl
    have hc:=JN (e:=e) (c:=c0) hm hr (by simp only [DA,hb,hkm]) hn
    have htr:=YG hm hkm hr
    refine ⟨[k], ?_⟩
    have hown:=(hm.own k _ hkm rfl).1
    rcases GA.1 htr with ⟨rfl,rfl,hF⟩ | ⟨y,b,n,rfl,hlen,hw⟩
    ·refine ⟨[],[],hg.del hl rfl,rfl,by simp only [TRs];exact ⟨trivial,trivial⟩,⟨List.nodup_nil,fun x hx=>by simp at hx⟩,fun j hj=>by rw [List.mem_singleton.1 hj];exact hkd,hc.len, .inl rfl⟩
    ·obtain ⟨us,F,own,h4,_⟩:=hc.got
     obtain ⟨ob3,us2,F',q1,q2,q3,q4,q5,_,_,_⟩:=hw.DH
     have hus:us=us2:=by
      have hn0:n=mm:=by
       rcases hc.at_ with ⟨hh,_⟩ | ⟨_,_,_,_,hh,_⟩
       ·cases hh
       ·cases hh;rfl
      subst hn0
      by_cases h0:n=0
      ·subst h0
       simp only [St.got,sl,if_true,Option.some.injEq] at h4
       subst h4
       have:us2.length=0:=by rw [q4,hlen];simp
       exact (List.eq_nil_of_length_eq_zero this).symm
      ·simp only [St.got,sl,h0,if_false,if_true,q1,Option.bind_some] at h4
       rw [hlen] at q2
       rw [q2] at h4;exact (Option.some.inj h4).symm
     subst hus
     have hnd:F'.Nodup:=(List.nodup_cons.1 (q5 ▸ hown)).2
     exact ⟨F',us,hg.del hl rfl,h4,q3,⟨hnd,fun x hx=>⟨k,by simp,by rw [q5];simp [hx]⟩⟩,fun j hj=>by rw [List.mem_singleton.1 hj];exact hkd,hc.len,hblk hc fun k' hk=>by simp only [NR,Option.some.injEq] at hk;subst hk;exact ⟨hkd,_,hkm⟩⟩
   ·cases h
  ·cases h
theorem uD {C:Ctx} {B:Bas} {ro:List (List T)} {m:Mst} (hm:Mem B ro m) {a x:E0} {sz by' n mm:Nat} {c1 c2:List T} {ob1 ob2:Obs} {aff:List Nat} {ks:List CK} {u1 u2:Value} (hsz:0<sz) (hr1:E0R ro m a u1) (hr2:E0R ro m x u2)
  (h1:OH m.ob sz a=some (c1,n,ob1,aff)) (hn:H0 ro m.ob x=some mm) (h2:ZC ro ob1 ks x sz=some (c2,ob2)) (hf:bA ks=true→flat c2=true) (hb:(n+mm)*by'≤2^47):
  ∃v s' A',Out C B ro m aff [] (.mu (ap sz by' u1 u2)) v (.o (.t m.nk sz)) ⟨s',(m.nk, .ls true (c1++c2))::ob2,m.nk+1,A'⟩:=by
 obtain ⟨hg,hl1,hbase⟩:=jP hm hr1 h1
 obtain ⟨dl2,Fn,us,hg2,hgot,htr,hmov,hdd,hl2,hblk⟩:=iS hm hr2 hg hn h2 hf
 have hus:=H3 htr
 have hdiv:us.length/sz=mm:=by rw [hus,hl2,Nat.mul_div_cancel _ hsz]
 have hmov2:Mov m (dl2++aff) Fn:=⟨hmov.nd,fun y hy=>by obtain ⟨k,hk,hky⟩:=hmov.fr y hy;exact ⟨k,by simp [hk],hky⟩⟩
 rcases hbase with ⟨rfl,rfl,rfl⟩ | ⟨h,b0,F,k,rfl,rfl,hw,hF,hnd⟩
 ·rw [List.nil_append]
  cases us with
  | nil=>
    have hc2:c2=[]:=List.eq_nil_of_length_eq_zero (by rw [←hus];rfl)
    subst hc2
    refine ⟨nl,m.s,_,pK hm hg2 hsz ?_⟩
    show ap sz by' nl u2 m.s=_
    simp only [ap,hgot,Option.bind_some,nl]
  | cons w ws=>
    refine ⟨_,_,_,RK (s1:=m.s) (n:=mm) hm hg2 hmov2 htr rfl (fun _ _ _=>rfl) hsz hl2 ?_ (fun _ _ _ _ _ _=>rfl)⟩
    show ap sz by' nl u2 m.s=_
    rw [Nat.zero_add] at hb
    simp only [ap,hgot,Option.bind_some,nl,hdiv,if_pos hb]
 ·obtain ⟨ob,old,F1,g1,g2,g3,g4,rfl,g6,g7,g8⟩:=hw.DH
  have hh:=St.FK g1
  have hhF:h∈(m.A k).F:=hF.subset (by simp)
  obtain ⟨o,hko,how⟩:=hg.own k (by simp)
  have hFnd:=List.nodup_cons.1 (hF.nodup hnd)
  have hfr: ∀y,y≠h→(m.s.put h none).get y=m.s.get y:=fun y hy=>K6 hy
  have hkd2: ∀j∈dl2,j≠k:=fun j hj he=>hdd j hj (by simp [he])
  have hdisj: ∀y∈Fn,y∉(m.A k).F:=fun y hy hyk=>by
   obtain ⟨j,hj,hjy⟩:=hmov.fr y hy
   obtain ⟨o2,ho2,how2⟩:=hg2.own j (by simp [hj])
   exact hm.dis j k o2 o (hkd2 j hj) ho2 hko how2 y hjy hyk
  refine ⟨_,_,_,RK (s1:=m.s.put h none) (us:=old++us) (Fn:=F1++Fn) (n:=n+mm) (aff:=[k]) hm hg2 ⟨List.nodup_append.2 ⟨hFnd.2,hmov.nd,fun y hy z hz he=> ?_⟩,fun y hy=> ?_⟩ (KH.2 ⟨old,us,F1,Fn,rfl,HJ _ _ _ (fun y hy=>hfr y fun he=>hFnd.1 (he ▸ hy)) g3,HJ _ _ _ (fun y hy=>hfr y fun he=>hdisj y hy (he ▸ hhF)) htr,rfl⟩) (by rw [St.P1])
   (fun y hy hd=>hfr y fun he=>hd k (by simp) (he ▸ hhF)) hsz (by rw [List.length_append,hl1,hl2,Nat.add_mul]) ?_ (fun k' o2 ho2 hne y hy=>hfr y fun he=> ?_)⟩
  ·subst he;exact hdisj y hz (hF.subset (by simp [hy]))
  ·rcases List.mem_append.1 hy with hy | hy
   ·exact ⟨k,by simp,hF.subset (by simp [hy])⟩
   ·obtain ⟨j,hj,hjy⟩:=hmov.fr y hy;exact ⟨j,by simp [hj],hjy⟩
  ·show ap sz by' (sl h b0 n sz) u2 m.s=_
   rw [hl1] at g2
   rcases hblk with rfl | ⟨y,b,k',o2,rfl,h5,h6,h7⟩
   ·unfold ap;rw [hgot]
    simp only [Option.bind_some,sl,nl,g1,g2,hdiv,decide_eq_true hb,g6 rfl,beq_self_eq_true,Bool.and_self,Bool.true_and,if_true,St.P1]
   ·have hne:y≠h:=fun he=>by
     subst he
     exact hm.dis k k' o o2 (fun he=>h5 (by simp [he])) hko h6 how y hhF h7
    unfold ap;rw [hgot]
    simp only [Option.bind_some,sl,g1,g2,hdiv,decide_eq_true hb,g6 rfl,beq_self_eq_true,Bool.and_self,Bool.true_and,if_true,St.P1]
    simp [hne]
  ·subst he
   have:k'≠k:=fun he=>by subst he;simp at hne
   exact hm.dis k k' o o2 (Ne.symm this) hko ho2 how y hhF hy
end Go.Proofs.Ytklmcfpgdfibnaa.Eng
