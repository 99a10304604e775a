/- A part of the proof. -/
import Derived.Test.YtklmcfpgdfibnaaLeGrC
import Derived.Test.YtklmcfpgdfibnaaLeRetA
import Derived.Test.YtklmcfpgdfibnaaLeGcA
namespace Go.Proofs.Ytklmcfpgdfibnaa.P
open Go Go.Proofs.Ytklmcfpgdfibnaa Go.Proofs.Ytklmcfpgdfibnaa.Eng
set_option linter.unusedVariables false
set_option maxHeartbeats 4000000
set_option linter.unusedVariables false
set_option linter.unusedSimpArgs false
attribute [local irreducible] prP gP gE gF AJ ixW ldc ldg ldl stc stg scW mkW apW A6 cl2 BF CM CB
variable {w0:World}
structure NOk (a:List Nd):Prop where
 len:a.length=8
 nd: ∀i,i<8→(nd a i).field.length=3∧(∀f∈(Eng.nd a i).field,F64 f)∧(0≤(Eng.nd a i).gen∧(Eng.nd a i).gen≤1000)∧(0≤(Eng.nd a i).holds∧(Eng.nd a i).holds≤20)∧(0≤(Eng.nd a i).roots∧(Eng.nd a i).roots≤20)
theorem NOk.fl {a:List Nd} (h:NOk a): ∀i,i<8→(Eng.nd a i).field.length≤1000∧ ∀f∈(Eng.nd a i).field,F64 f:=fun i hi=>⟨by rw [(h.nd i hi).1];omega,(h.nd i hi).2.1⟩
theorem NOk.set {a:List Nd} (h:NOk a) {k:Nat} {v:Nd} (hk:k<8) (h1:v.field.length=3) (h2: ∀f∈v.field,F64 f) (h3:0≤v.gen∧v.gen≤1000) (h4:0≤v.holds∧v.holds≤20) (h5:0≤v.roots∧v.roots≤20):NOk (a.set k v):=by
 have hl:=h.len
 refine ⟨by simp [hl],fun i hi=> ?_⟩
 rw [wY (by omega)]
 split
 ·exact ⟨h1,h2,h3,h4,h5⟩
 ·exact h.nd i hi
def cG (g:Int):Nd:=⟨false,g,0,0,0,MY⟩
theorem sS: ∀f∈MY,F64 f:=by simp [MY,F64]
theorem NOk.free {a:List Nd} (h:NOk a) {k:Nat} (hk:k<8):NOk (a.set k (cG (Eng.nd a k).gen)):=h.set hk rfl sS (h.nd k hk).2.2.1 ⟨by simp [cG],by simp [cG]⟩ ⟨by simp [cG],by simp [cG]⟩
end Go.Proofs.Ytklmcfpgdfibnaa.P
namespace Go.Proofs.Ytklmcfpgdfibnaa.P
open Go Go.Proofs.Ytklmcfpgdfibnaa Go.Proofs.Ytklmcfpgdfibnaa.Eng
set_option linter.unusedVariables false
set_option maxHeartbeats 4000000
set_option linter.unusedVariables false
set_option linter.unusedSimpArgs false
attribute [local irreducible] prP gP gE gF AJ ixW ldc ldg ldl stc stg scW mkW apW A6 cl2 BF CM CB
variable {w0:World}
def swL (a:List Nd) (n:Nat):List Int:=pick (fun i=>if (nd a i).live=true∧ ¬inQ (grQ a) (i:Int) then [B2 i (nd a i).gen] else []) n
attribute [local irreducible] swL yW grQ
end Go.Proofs.Ytklmcfpgdfibnaa.P
namespace Go.Proofs.Ytklmcfpgdfibnaa.P
open Go Go.Proofs.Ytklmcfpgdfibnaa Go.Proofs.Ytklmcfpgdfibnaa.Eng
set_option linter.unusedVariables false
set_option maxHeartbeats 4000000
set_option linter.unusedVariables false
set_option linter.unusedSimpArgs false
attribute [local irreducible] prP gP gE gF AJ ixW ldc ldg ldl stc stg scW mkW apW A6 cl2 BF CM CB
variable {w0:World}
end Go.Proofs.Ytklmcfpgdfibnaa.P
namespace Go.Proofs.Ytklmcfpgdfibnaa.P
open Go Go.Proofs.Ytklmcfpgdfibnaa Go.Proofs.Ytklmcfpgdfibnaa.Eng
set_option linter.unusedVariables false
theorem N0.kids {a b:List AE} (h:N0 a b) (ha:a.length=8) (hb:b.length=8) {k:Nat} (hk:k<8):BE a k=BE b k:=by
 unfold BE
 rw [(h k hk).2.2.2.2]
 have:AA a=AA b:=funext fun x=>h.slot ha hb x
 rw [this]
theorem N0.exts {a b:List AE} (h:N0 a b) (ha:a.length=8) (hb:b.length=8):exts a=exts b:=by
 unfold P.exts
 rw [ha,hb]
 refine P5 fun i hi=> ?_
 obtain ⟨h1,h2,h3,h4,_⟩:=h i hi
 unfold mE
 rw [h1,h2,h3,h4]
theorem lP {os:List AE} {buf:List Int} {kd id:Int} {k:Nat} (hk:AA os id=(k:Int)) (hkd:kd=2∨kd=3∨kd=5∨kd=6) (h1:0≤(ob os k).holds∧(ob os k).holds≤20) (h2:0≤(ob os k).roots∧(ob os k).roots≤20):(FH os buf kd id).2.2.code=if hdM kd (ob os k).holds>20∨rtM kd (ob os k).roots>20 then 4 else if hdM kd (ob os k).holds<0∨rtM kd (ob os k).roots<0 then 5 else 0:=by
 unfold FH
 rw [if_neg (by omega),hk,Int.toNat_natCast]
 rcases hkd with rfl | rfl | rfl | rfl
 ·simp only [hdM,rtM,if_true]
  by_cases h:(ob os k).holds=20
  ·rw [if_pos h,if_pos (by simp;omega)]
  ·rw [if_neg h,if_neg (by simp;omega),if_neg (by simp;omega)]
 ·simp only [hdM,rtM,show ¬(3:Int)=2 by decide,show ¬(3:Int)=5 by decide,if_true,if_false,or_true]
  by_cases h:(ob os k).holds=0
  ·rw [if_pos h,if_neg (by omega),if_pos (by omega)]
  ·rw [if_neg h,if_neg (by omega),if_neg (by omega)];rfl
 ·simp only [hdM,rtM,show ¬(5:Int)=2 by decide,show ¬(5:Int)=3 by decide,if_true,if_false]
  by_cases h:(ob os k).roots=20
  ·rw [if_pos h,if_pos (by omega)]
  ·rw [if_neg h,if_neg (by omega),if_neg (by omega)]
 ·simp only [hdM,rtM,show ¬(6:Int)=2 by decide,show ¬(6:Int)=3 by decide,show ¬(6:Int)=5 by decide,if_false,or_false]
  by_cases h:(ob os k).roots=0
  ·rw [if_pos h,if_neg (by omega),if_pos (by omega)]
  ·rw [if_neg h,if_neg (by omega),if_neg (by omega)];rfl
theorem Ba (v:Int):hdM 2 v=v+1:=if_pos rfl
theorem Br (v:Int):hdM 3 v=v-1:=by unfold hdM;rw [if_neg (by decide),if_pos rfl]
theorem Ax (v:Int):hdM 5 v=v:=by unfold hdM;rw [if_neg (by decide),if_neg (by decide)]
theorem Bl (v:Int):hdM 6 v=v:=by unfold hdM;rw [if_neg (by decide),if_neg (by decide)]
theorem Bg (v:Int):rtM 2 v=v:=by unfold rtM;rw [if_neg (by decide),if_pos (by decide)]
theorem Al (v:Int):rtM 3 v=v:=by unfold rtM;rw [if_neg (by decide),if_pos (by decide)]
theorem Bn (v:Int):rtM 5 v=v+1:=if_pos rfl
theorem Bb (v:Int):rtM 6 v=v-1:=by unfold rtM;rw [if_neg (by decide),if_neg (by decide)]
set_option maxHeartbeats 4000000
set_option linter.unusedVariables false
set_option linter.unusedSimpArgs false
attribute [local irreducible] prP gP gE gF AJ ixW ldc ldg ldl stc stg scW mkW apW A6 cl2 BF CM CB
variable {w0:World}
structure Bx (a a':List Nd) (fr out:List Int):Prop where
 nok:NOk a'
 R:IN (osN a) (osN a') fr
 D:KG (osN a) (osN a')
 E: ∀i,i<8→(ob (osN a') i).live=true→uZ (osN a') i
 pm:out.Perm fr
 so:out.Pairwise (· ≤ ·)
structure Bw (h:Hp) (o:Op5) (a':List Nd) (code:Int) (out:List Int):Prop where
 code:code=(CG h o).2.code
 nok:NOk a'
 same: ∀i,i<8→(nd a' i).live=(ob (CG h o).1.AD i).live∧(nd a' i).gen=(ob (CG h o).1.AD i).gen
 pm:out.Perm (CG h o).2.freed
 so:out.Pairwise (· ≤ ·)
end Go.Proofs.Ytklmcfpgdfibnaa.P
namespace Go.Proofs.Ytklmcfpgdfibnaa.P
open Go Go.Proofs.Ytklmcfpgdfibnaa Go.Proofs.Ytklmcfpgdfibnaa.Eng
set_option linter.unusedVariables false
def sm (t:Nat→Int):Nat→Int
 | 0=>0
 | n+1=>sm t n+t n
theorem ME {t t':Nat→Int}: ∀{n:Nat},(∀k,k<n→t k=t' k)→sm t n=sm t' n
 | 0,_=>rfl
 | n+1,h=>by simp only [sm];rw [ME fun k hk=>h k (by omega),h n (by omega)]
theorem Z3 {t t':Nat→Int} {k:Nat}: ∀{n:Nat},k<n→(∀j,j<n→j≠k→t' j=t j)→sm t' n=sm t n+(t' k-t k)
 | 0,h,_=>by omega
 | n+1,h,he=>by
   simp only [sm]
   by_cases hk:k=n
   ·subst hk
    rw [ME (t:=t') (t':=t) fun j hj=>he j (by omega) (by omega)];omega
   ·rw [Z3 (n:=n) (by omega) fun j hj hjk=>he j (by omega) hjk,he n (by omega) (Ne.symm hk)];omega
def tm (os:List AE) (w:AE→Int) (i:Nat) (k:Nat):Int:=if (ob os k).live=true∧(ob os k).site=(i:Int) then w (ob os k) else 0
theorem xU {R:List BJ} {i:Nat}:(rg R i).s=(nm R).getD i ⟨#[]⟩:=by
 unfold rg nm
 rw [List.getD_eq_getElem?_getD,List.getD_eq_getElem?_getD,List.getElem?_map]
 cases R[i]? <;> rfl
theorem dL {R R':List BJ} {i:Nat} (h:nm R=nm R'):(rg R i).s=(rg R' i).s:=by rw [xU,xU,h]
theorem aV {R:List BJ} (h:(nm R).Nodup) {i:Nat} (hi:i<R.length):B8 R (rg R i).s=i:=by
 refine QG hi rfl fun j hj he=> ?_
 have hjl:j<R.length:=by omega
 rw [←I6 hi, ←I6 hjl] at he
 exact (List.pairwise_iff_getElem.1 h) j i (by simp [nm];omega) (by simp [nm];omega) hj (by simpa [nm] using he)
def LG (L:Nat→Bool) (st:Nat→Int) (i:Nat) (k:Nat):Int:=if L k=true∧st k=(i:Int) then 1 else 0
theorem mK {W:List Own} {idv:Nat→Int} {st:Nat→Int}: ∀{fl:List Int} {R:List BJ} {L:Nat→Bool},(nm R).Nodup→fl.Nodup→(∀v∈fl, ∃k i:Nat,k<8∧L k=true∧v=idv k∧st k=(i:Int)∧i<R.length∧QY W v=some (rg R i).s)→
  (∀k m,k<8→m<8→L k=true→L m=true→idv k=idv m→k=m)→(∀i,i<R.length→(rg R i).al-(rg R i).fr=sm (LG L st i) 8)→
  ∀i,i<R.length→((rg (frL R W fl) i).al=(rg R i).al∧(rg (frL R W fl) i).re=(rg R i).re∧(rg (frL R W fl) i).rl=(rg R i).rl∧(rg (frL R W fl) i).ro=(rg R i).ro∧(rg (frL R W fl) i).un=(rg R i).un)∧(rg (frL R W fl) i).al-(rg (frL R W fl) i).fr=sm (LG (fun k=>L k&&decide (idv k∉fl)) st i) 8
 | [],R,L,_,_,_,_,hl,i,hi=>by
   refine ⟨⟨rfl,rfl,rfl,rfl,rfl⟩, ?_⟩
   have:=hl i hi
   simpa [frL] using this
 | v::fl,R,L,hn,hd,hv,hj,hl,i,hi=>by
   obtain ⟨k,i0,k8,kv,ek,es,hi0,ho⟩:=hv v (by simp)
   have hd2:=List.nodup_cons.1 hd
   have hri:RP R W v=some i0:=by
    unfold RP;rw [ho];simp only
    rw [aV hn hi0,if_pos hi0]
   have eR:G4 R W v fF=ED R i0 fF:=by unfold G4;rw [hri]
   have e1:frL R W (v::fl)=frL (ED R i0 fF) W fl:=by simp only [frL,List.foldl_cons];rw [eR]
   have en:nm (ED R i0 fF)=nm R:=RJ fun r=>rfl
   have rgs:=fun j=>Q9 (f:=fF) (j:=j) hi0
   have ih:=mK (W:=W) (idv:=idv) (st:=st) (fl:=fl) (R:=ED R i0 fF) (L:=fun j=>L j&&decide (j≠k)) (by rw [en];exact hn) hd2.2 (fun u hu=>by
    obtain ⟨m,i1,m8,mv,em,es1,hi1,ho1⟩:=hv u (by simp [hu])
    refine ⟨m,i1,m8, ?_,em,es1,by rw [DJ];exact hi1,by rw [ho1,dL en]⟩
    have:m≠k:=fun he=>hd2.1 (by rw [ek, ←he, ←em];exact hu)
    simp [mv,this]) (fun a b a8 b8 ha hb=>hj a b a8 b8 (by simp at ha;exact ha.1) (by simp at hb;exact hb.1)) (fun j hjl=>by
    rw [DJ] at hjl
    have h0:=hl j hjl
    have hu:=Z3 (t:=LG L st j) (t':=LG (fun m=>L m&&decide (m≠k)) st j) (k:=k) (n:=8) k8 fun m _ hm=>by simp [LG,hm]
    rw [hu,rgs]
    have t1:LG (fun m=>L m&&decide (m≠k)) st j k=0:=by simp [LG]
    have t2:LG L st j k=if j=i0 then 1 else 0:=by
     simp only [LG,kv,true_and,es]
     by_cases hji:j=i0
     ·subst hji;rw [if_pos rfl,if_pos rfl]
     ·rw [if_neg (by omega),if_neg hji]
    rw [t1,t2]
    by_cases hji:j=i0
    ·subst hji;rw [if_pos rfl,if_pos rfl];simp only [fF];omega
    ·rw [if_neg hji,if_neg hji];omega) i (by rw [DJ];exact hi)
   rw [e1]
   obtain ⟨⟨a1,a2,a3,a4,a5⟩,a6⟩:=ih
   have er:(rg (ED R i0 fF) i).al=(rg R i).al∧(rg (ED R i0 fF) i).re=(rg R i).re∧(rg (ED R i0 fF) i).rl=(rg R i).rl∧(rg (ED R i0 fF) i).ro=(rg R i).ro∧(rg (ED R i0 fF) i).un=(rg R i).un:=by
    rw [rgs]
    by_cases hii:i=i0
    ·subst hii;rw [if_pos rfl];exact ⟨rfl,rfl,rfl,rfl,rfl⟩
    ·rw [if_neg hii];exact ⟨rfl,rfl,rfl,rfl,rfl⟩
   refine ⟨⟨a1.trans er.1,a2.trans er.2.1,a3.trans er.2.2.1,a4.trans er.2.2.2.1,a5.trans er.2.2.2.2⟩, ?_⟩
   rw [a6]
   refine ME fun m m8=> ?_
   unfold LG
   have:((L m&&decide (m≠k))&&decide (idv m∉fl))=(L m&&decide (idv m∉v::fl)):=by
    cases hm:L m with
    | false=>rfl
    | true=>
      by_cases hmk:m=k
      ·subst hmk;simp [ek]
      ·have:idv m≠v:=fun he=>hmk (hj m k m8 k8 hm kv (by rw [he,ek]))
       simp [hmk,this]
   simp only [this]
structure Fre (os1 os':List AE) (fl:List Int):Prop where
 sub: ∀k,k<8→(ob os' k).live=true→(ob os1 k).live=true∧(ob os' k).gen=(ob os1 k).gen∧(ob os' k).site=(ob os1 k).site∧(ob os' k).holds=(ob os1 k).holds∧(ob os' k).roots=(ob os1 k).roots
 zero: ∀k,k<8→(ob os1 k).live=true→(ob os' k).live=false→(ob os1 k).holds=0∧(ob os1 k).roots=0
 fr: ∀v,v∈fl↔ ∃k,k<8∧(ob os1 k).live=true∧(ob os' k).live=false∧v=B2 k (ob os1 k).gen
 nd:fl.Nodup
theorem Fre.same {os:List AE}:Fre os os []:=⟨fun k _ h=>⟨h,rfl,rfl,rfl,rfl⟩,fun k _ h1 h2=>(by rw [h1] at h2;cases h2),fun v=>⟨fun h=>(by simp at h),fun ⟨k,_,h1,h2,_⟩=>(by rw [h1] at h2;cases h2)⟩,List.nodup_nil⟩
structure MN (x:Hp) (p:List BJ×List Own):Prop where
 nms:nm p.1=x.sites
 own: ∀k,k<8→(ob x.AD k).live=true→ ∃i:Nat,(ob x.AD k).site=(i:Int)∧i<p.1.length∧QY p.2 (B2 k (ob x.AD k).gen)=some (rg p.1 i).s
 hd: ∀i,i<p.1.length→(rg p.1 i).al+(rg p.1 i).re-(rg p.1 i).rl=sm (tm x.AD (·.holds) i) 8
 rt: ∀i,i<p.1.length→(rg p.1 i).ro-(rg p.1 i).un=sm (tm x.AD (·.roots) i) 8
 lv: ∀i,i<p.1.length→(rg p.1 i).al-(rg p.1 i).fr=sm (tm x.AD (fun _=>1) i) 8
theorem cX {h:Hp} (hk:BO h):h.sites.Nodup:=V6 fun i hi=>by rw [PV hi];exact hk.sites.one i hi
theorem MN.free {x x':Hp} {R1:List BJ} {W:List Own} {os1:List AE} {fl:List Int} (hk:BO x) (hn:nm R1=x.sites) (hs:x'.sites=x.sites) (S:IZ x.AD os1) (F:Fre os1 x'.AD fl)
  (ho: ∀k,k<8→(ob x.AD k).live=true→ ∃i:Nat,(ob x.AD k).site=(i:Int)∧i<R1.length∧QY W (B2 k (ob x.AD k).gen)=some (rg R1 i).s)
  (h1: ∀i,i<R1.length→(rg R1 i).al+(rg R1 i).re-(rg R1 i).rl=sm (tm os1 (·.holds) i) 8) (h2: ∀i,i<R1.length→(rg R1 i).ro-(rg R1 i).un=sm (tm os1 (·.roots) i) 8) (h3: ∀i,i<R1.length→(rg R1 i).al-(rg R1 i).fr=sm (tm os1 (fun _=>1) i) 8):MN x' (frL R1 W fl,W):=by
 have sl:=S.2
 have nd:(nm R1).Nodup:=by rw [hn];exact cX hk
 have key:=fun i hi=>mK (W:=W) (idv:=fun k=>B2 k (ob os1 k).gen) (st:=fun k=>(ob os1 k).site) (fl:=fl) (R:=R1) (L:=fun k=>(ob os1 k).live) nd F.nd (fun v hv=>by
  obtain ⟨k,k8,kv,_,ev⟩:=(F.fr v).1 hv
  obtain ⟨i,e1,e2,e3⟩:=ho k k8 (by rw [←(sl k).1];exact kv)
  exact ⟨k,i,k8,kv,ev,by rw [(sl k).2.2];exact e1,e2,by rw [ev,(sl k).2.1];exact e3⟩) (fun k m k8 m8 kv mv he=>by
  rw [(sl k).1] at kv;rw [(sl m).1] at mv;simp only [(sl k).2.1,(sl m).2.1] at he
  exact MX hk k8 kv m8 mv he) h3 i hi
 have dead: ∀k,k<8→(ob x'.AD k).live=false→(ob os1 k).live=true→B2 k (ob os1 k).gen∈fl:=fun k k8 h h'=>(F.fr _).2 ⟨k,k8,h',h,rfl⟩
 have alive: ∀k,k<8→(ob x'.AD k).live=true→B2 k (ob os1 k).gen∉fl:=fun k k8 h hm=>by
  obtain ⟨m,m8,mv,md,em⟩:=(F.fr _).1 hm
  have kv:=(F.sub k k8 h).1
  have:k=m:=MX hk k8 (by rw [←(sl k).1];exact kv) m8 (by rw [←(sl m).1];exact mv) (by rw [←(sl k).2.1, ←(sl m).2.1];exact em)
  rw [this,md] at h;cases h
 have lenf:(frL R1 W fl).length=R1.length:=T2
 have trm: ∀(w:AE→Int),(∀k,k<8→(ob os1 k).live=true→(ob x'.AD k).live=false→w (ob os1 k)=0)→(∀k,k<8→(ob x'.AD k).live=true→w (ob x'.AD k)=w (ob os1 k))→ ∀i,sm (tm os1 w i) 8=sm (tm x'.AD w i) 8:=fun w hz he i=>by
  refine ME fun k k8=> ?_
  unfold tm
  cases hv:(ob x'.AD k).live with
  | true=>
    obtain ⟨a,_,b,_⟩:=F.sub k k8 hv
    rw [a,b,he k k8 hv]
  | false=>
    cases hv1:(ob os1 k).live with
    | true=>rw [hz k k8 hv1 hv];simp
    | false=>simp
 refine ⟨by rw [hs, ←hn];exact eL,fun k k8 kv=> ?_,fun i hi=> ?_,fun i hi=> ?_,fun i hi=> ?_⟩
 ·obtain ⟨a,b,c,_⟩:=F.sub k k8 kv
  obtain ⟨i,e1,e2,e3⟩:=ho k k8 (by rw [←(sl k).1];exact a)
  refine ⟨i,by rw [c,(sl k).2.2];exact e1,by simp only;rw [lenf];exact e2, ?_⟩
  simp only
  rw [b,(sl k).2.1,e3,dL (R':=R1) eL]
 ·simp only at hi ⊢
  rw [lenf] at hi
  obtain ⟨⟨a1,a2,a3,_,_⟩,_⟩:=key i hi
  rw [a1,a2,a3,h1 i hi]
  exact trm (·.holds) (fun k k8 a b=>(F.zero k k8 a b).1) (fun k k8 a=>(F.sub k k8 a).2.2.2.1) i
 ·simp only at hi ⊢
  rw [lenf] at hi
  obtain ⟨⟨_,_,_,a4,a5⟩,_⟩:=key i hi
  rw [a4,a5,h2 i hi]
  exact trm (·.roots) (fun k k8 a b=>(F.zero k k8 a b).2) (fun k k8 a=>(F.sub k k8 a).2.2.2.2) i
 ·simp only at hi ⊢
  rw [lenf] at hi
  obtain ⟨_,a6⟩:=key i hi
  rw [a6]
  refine ME fun k k8=> ?_
  unfold tm LG
  cases hv:(ob x'.AD k).live with
  | true=>
    obtain ⟨a,_,b,_⟩:=F.sub k k8 hv
    have:=alive k k8 hv
    simp [a,b,this]
  | false=>
    cases hv1:(ob os1 k).live with
    | true=>have:=dead k k8 hv hv1;simp [this]
    | false=>simp [hv1]
end Go.Proofs.Ytklmcfpgdfibnaa.P
