/- A part of the proof. -/
import Derived.Test.YtklmcfpgdfibnaaLeLedD
import Derived.Test.YtklmcfpgdfibnaaLeGrpA
import Derived.Test.YtklmcfpgdfibnaaLeLetA
namespace Go.Proofs.Ytklmcfpgdfibnaa.P
open Go Go.Proofs.Ytklmcfpgdfibnaa Go.Proofs.Ytklmcfpgdfibnaa.Eng
set_option linter.unusedVariables false
theorem MN.fB {x x':Hp} {p:List BJ×List Own} (h:MN x p) (h1:x'.AD=x.AD) (h2:x'.sites=x.sites):MN x' p:=⟨by rw [h2];exact h.nms,by rw [h1];exact h.own,by rw [h1];exact h.hd,by rw [h1];exact h.rt,by rw [h1];exact h.lv⟩
theorem dP {G:List AE→Prop} {os:List AE} {ns:Nat} {buf:List Int} {r:List AE×List Int×An} (m:nI G os ns buf r):(r.2.2.code≠0∧r.1=os)∨(r.2.2.code=0∧ ∃os1,os1.length=8∧IZ os os1∧G os1∧IN os1 r.1 r.2.2.freed∧KG os1 r.1):=by
 rcases m with ⟨c,hc,rfl⟩ | ⟨os1,h1,h2,_,hG,rfl⟩ | ⟨os1,x,h1,h2,_,hG,rfl⟩
 ·exact .inl ⟨by simp only;omega,rfl⟩
 ·exact .inr ⟨rfl,os1,h1.ol,h2,hG,IN.refl h1.ol,KG.refl _⟩
 ·exact .inr ⟨rfl,os1,h1.ol,h2,hG,aR h1,sV h1⟩
theorem ZQ (os:List AE) (v:Int):AA os v<0∨ ∃k:Nat,AA os v=(k:Int):=by
 by_cases h:AA os v<0
 ·exact .inl h
 ·exact .inr ⟨(AA os v).toNat,by omega⟩
theorem Fre.sY {x x':Hp} {os1:List AE} {fl:List Int} (hk:BO x) (hk':BO x') (S:IZ x.AD os1) (R:IN os1 x'.AD fl) (D:KG os1 x'.AD) (hr: ∀k,k<8→0≤(ob os1 k).holds∧0≤(ob os1 k).roots):Fre os1 x'.AD fl:=by
 have sl:=S.2
 have es: ∀v,AA os1 v=AA x.AD v:=fun v=>DP S.1 fun i _=>⟨(sl i).1,(sl i).2.1⟩
 refine ⟨fun k k8 kv=> ?_,fun k k8 kv kd=> ?_,fun v=> ?_,R.nd⟩
 ·obtain ⟨a,b,c,d,_⟩:=R.sm k k8 kv
  exact ⟨a,R.gn k k8,b,c,d⟩
 ·have:=D k k8 kv kd
  cases this with
  | mk a b c d=>have:=hr k k8;omega
 ·rw [R.fr,es]
  constructor
  ·rintro ⟨h1,h2⟩
   rcases ZQ x.AD v with h | ⟨k,h⟩
   ·omega
   obtain ⟨k8,kv,ev⟩:=ZE hk h
   refine ⟨k,k8,by rw [(sl k).1];exact kv, ?_,by rw [(sl k).2.1];exact ev⟩
   cases hv:(ob x'.AD k).live with
   | false=>rfl
   | true=>
     have:=UA hk' k8 hv
     rw [R.gn k k8,(sl k).2.1, ←ev] at this
     omega
  ·rintro ⟨k,k8,kv,kd,ev⟩
   rw [(sl k).1] at kv;rw [(sl k).2.1] at ev
   have e1:=UA hk k8 kv
   rw [←ev] at e1
   refine ⟨by omega, ?_⟩
   rcases ZQ x'.AD v with h | ⟨m,h⟩
   ·exact h
   obtain ⟨m8,mv,em⟩:=ZE hk' h
   have mv1:=(R.sm m m8 mv).1
   rw [(sl m).1] at mv1
   rw [R.gn m m8,(sl m).2.1] at em
   have:m=k:=MX hk m8 mv1 k8 kv (by rw [←em, ←ev])
   rw [this,kd] at mv;cases mv
theorem Fre.lE {x:Hp} (hk:BO x) (g:Gd x.AD x.buffer):Fre x.AD (F4 x.AD x.buffer).1 (F4 x.AD x.buffer).2:=by
 have R:=fO hk.hp g
 have e4:(F4 x.AD x.buffer).2=cU x.AD:=(eJ hk g).symm
 rw [e4]
 refine ⟨fun k k8 kv=> ?_,fun k k8 kv kd=> ?_,fun v=> ?_, ?_⟩
 ·have hr:=(R.lv k k8).1 kv
  obtain ⟨a,b,c,d,_⟩:=R.sm k k8 hr
  exact ⟨hr.live.2,a,b,c,d⟩
 ·have hr:=hk.hr k
  have: ¬Rch x.AD k:=fun h=>by rw [(R.lv k k8).2 h] at kd;cases kd
  have hz:(ob x.AD k).holds+(ob x.AD k).roots=0:=Classical.byContradiction fun hn=>this ⟨k,⟨k8,kv,by omega⟩, .refl⟩
  omega
 ·rw [oV hk]
  constructor
  ·rintro ⟨k,k8,kv,ev,hn⟩
   refine ⟨k,k8,kv, ?_,ev⟩
   cases hv:(ob (F4 x.AD x.buffer).1 k).live with
   | false=>rfl
   | true=>exact absurd ((R.lv k k8).1 hv) hn
  ·rintro ⟨k,k8,kv,kd,ev⟩
   exact ⟨k,k8,kv,ev,fun h=>by rw [(R.lv k k8).2 h] at kd;cases kd⟩
 ·exact (bU hk).filter _
theorem mI {k:Int} (h2:k≠2) (h3:k≠3) (h5:k≠5) (h6:k≠6) (r:BJ):kF k r=r:=by
 unfold kF;rw [if_neg h2,if_neg h3,if_neg h5,if_neg h6]
theorem fR {R:List BJ} {W:List Own} {id k:Int} (h2:k≠2) (h3:k≠3) (h5:k≠5) (h6:k≠6):G4 R W id (kF k)=R:=by
 unfold G4;split
 ·exact OY (mI h2 h3 h5 h6)
 ·rfl
theorem MN.IX {x x':Hp} {p:List BJ×List Own} {os1:List AE} {fl:List Int} (hk:BO x) (h:MN x p) (hs:x'.sites=x.sites) (S:IZ x.AD os1) (F:Fre os1 x'.AD fl) (hh: ∀k,(ob os1 k).holds=(ob x.AD k).holds∧(ob os1 k).roots=(ob x.AD k).roots):MN x' (frL p.1 p.2 fl,p.2):=by
 have sl:=S.2
 have e: ∀(w:AE→Int),(∀k,w (ob os1 k)=w (ob x.AD k))→ ∀i,sm (tm os1 w i) 8=sm (tm x.AD w i) 8:=fun w hw i=>ME fun k _=>by unfold tm;rw [(sl k).1,(sl k).2.2,hw]
 exact MN.free hk h.nms hs S F h.own (fun i hi=>by rw [h.hd i hi,e _ fun k=>(hh k).1]) (fun i hi=>by rw [h.rt i hi,e _ fun k=>(hh k).2]) (fun i hi=>by rw [h.lv i hi,e _ fun k=>rfl])
theorem MN.hold {x x':Hp} {p:List BJ×List Own} {os1:List AE} {fl:List Int} {kd id:Int} {k:Nat} (hk:BO x) (h:MN x p) (hs:x'.sites=x.sites) (S:IZ x.AD os1) (F:Fre os1 x'.AD fl) (hkd:kd=2∨kd=3∨kd=5∨kd=6) (hsl:AA x.AD id=(k:Int)) (hG:TK x.AD os1 kd id):MN x' (frL (G4 p.1 p.2 id (kF kd)) p.2 fl,p.2):=by
 have sl:=S.2
 obtain ⟨k8,kv,ev⟩:=ZE hk hsl
 obtain ⟨i0,e1,e2,e3⟩:=h.own k k8 kv
 rw [←ev] at e3
 have nd:(nm p.1).Nodup:=by rw [h.nms];exact cX hk
 have eR:G4 p.1 p.2 id (kF kd)=ED p.1 i0 (kF kd):=by
  unfold G4 RP
  rw [e3];simp only
  rw [aV nd e2,if_pos e2]
 rw [eR]
 have en:nm (ED p.1 i0 (kF kd))=nm p.1:=RJ fun r=>(UR kd r).1
 have rgs:=fun j=>Q9 (f:=kF kd) (j:=j) e2
 have k1:(ob os1 k).live=true:=by rw [(sl k).1];exact kv
 have up: ∀(w:AE→Int),(∀j,j≠k→w (ob os1 j)=w (ob x.AD j))→ ∀i,sm (tm os1 w i) 8=sm (tm x.AD w i) 8+if i=i0 then w (ob os1 k)-w (ob x.AD k) else 0:=fun w hw i=>by
  rw [Z3 (t:=tm x.AD w i) k8 fun j _ hj=>by unfold tm;rw [(sl j).1,(sl j).2.2,hw j hj]]
  congr 1
  unfold tm
  rw [(sl k).2.2,k1,kv,e1]
  by_cases hi:i=i0
  ·subst hi;simp
  ·rw [if_neg (by omega),if_neg (by omega),if_neg hi];rfl
 have hh: ∀j,j≠k→(ob os1 j).holds=(ob x.AD j).holds∧(ob os1 j).roots=(ob x.AD j).roots:=fun j hj=>by
  obtain ⟨_,_,_,a,b⟩:=hG j
  rw [hsl,if_neg (by omega)] at a b
  exact ⟨a,b⟩
 obtain ⟨_,_,_,ka,kb⟩:=hG k
 rw [hsl,if_pos rfl] at ka kb
 refine MN.free hk (by rw [en];exact h.nms) hs S F (fun j j8 jv=> ?_) (fun i hi=> ?_) (fun i hi=> ?_) fun i hi=> ?_
 ·obtain ⟨i,a,b,c⟩:=h.own j j8 jv
  exact ⟨i,a,by rw [DJ];exact b,by rw [c,dL en]⟩
 ·rw [DJ] at hi
  have h0:=h.hd i hi
  rw [up _ (fun j hj=>(hh j hj).1),ka,rgs]
  by_cases hii:i=i0
  ·subst hii
   rw [if_pos rfl,if_pos rfl, ←h0]
   rcases hkd with rfl | rfl | rfl | rfl
   ·rw [Ba,yT];simp only;omega
   ·rw [Br,Ad];simp only;omega
   ·rw [Ax,zR];simp only;omega
   ·rw [Bl,yL];simp only;omega
  ·rw [if_neg hii,if_neg hii,Int.add_zero];exact h0
 ·rw [DJ] at hi
  have h0:=h.rt i hi
  rw [up _ (fun j hj=>(hh j hj).2),kb,rgs]
  by_cases hii:i=i0
  ·subst hii
   rw [if_pos rfl,if_pos rfl, ←h0]
   rcases hkd with rfl | rfl | rfl | rfl
   ·rw [Bg,yT];simp only;omega
   ·rw [Al,Ad];simp only;omega
   ·rw [Bn,zR];simp only;omega
   ·rw [Bb,yL];simp only;omega
  ·rw [if_neg hii,if_neg hii,Int.add_zero];exact h0
 ·rw [DJ] at hi
  have h0:=h.lv i hi
  rw [up (fun _=>1) (fun _ _=>rfl),rgs]
  by_cases hii:i=i0
  ·subst hii
   rw [if_pos rfl,if_pos rfl, ←h0]
   rcases hkd with rfl | rfl | rfl | rfl <;> simp [kF]
  ·rw [if_neg hii,if_neg hii,h0];omega
theorem oA {R:List BJ} {ss:List ByteArray} (hn:nm R=ss) (s:ByteArray):B8 R s=ss.idxOf s:=by
 rw [WN,hn]
 unfold List.idxOf
 congr 1
 funext x
 exact Ah.symm
theorem jT {t:Nat→Int}: ∀{n:Nat},(∀k,k<n→t k=0)→sm t n=0
 | 0,_=>rfl
 | n+1,h=>by simp only [sm];rw [jT fun k hk=>h k (by omega),h n (by omega)];rfl
theorem oK {R:List BJ} {ss:List ByteArray} (hn:nm R=ss) (s:ByteArray):(if at_ ss s<0 then (ss.length:Int) else at_ ss s)=(B8 (C8 R s) s:Int)∧(if at_ ss s<0 then ss++[s] else ss)=nm (C8 R s)∧ ∀i,i<(C8 R s).length→(i<R.length∧rg (C8 R s) i=rg R i)∨(i=R.length∧rg (C8 R s) i=rw0 s):=by
 have hl:R.length=ss.length:=by rw [←hn];simp [nm]
 have hf:=oA hn s
 by_cases hm:s∈ss
 ·have ha:at_ ss s=(ss.idxOf s:Int):=by unfold at_;rw [if_pos hm]
  have hlt:B8 R s<R.length:=by rw [hf,hl];exact List.idxOf_lt_length_iff.2 hm
  have e:C8 R s=R:=by unfold C8;rw [if_pos hlt]
  rw [e,ha,if_neg (by omega),if_neg (by omega),hf,hn]
  exact ⟨rfl,rfl,fun i hi=> .inl ⟨hi,rfl⟩⟩
 ·have ha:at_ ss s= -1:=by unfold at_;rw [if_neg hm]
  have hge: ¬B8 R s<R.length:=by rw [hf,hl];exact fun h=>hm (List.idxOf_lt_length_iff.1 h)
  have e:C8 R s=R++[rw0 s]:=by unfold C8;rw [if_neg hge]
  have el:B8 (R++[rw0 s]) s=R.length:=by
   have hge': ¬List.findIdx (fun r:BJ=>decide (r.s=s)) R<R.length:=hge
   unfold B8
   rw [List.findIdx_append,if_neg hge']
   simp [List.findIdx_cons,rw0]
  rw [e,ha,if_pos (by decide),if_pos (by decide),el,hl]
  refine ⟨rfl,by simp [nm, ←hn,rw0],fun i hi=> ?_⟩
  simp only [List.length_append,List.length_singleton] at hi
  by_cases hir:i<R.length
  ·left
   refine ⟨by omega, ?_⟩
   unfold rg;rw [List.getD_eq_getElem?_getD,List.getElem?_append_left hir, ←List.getD_eq_getElem?_getD]
  ·right
   have:i=R.length:=by omega
   subst this
   exact ⟨hl,by unfold rg;simp⟩
theorem cR {p:List BJ×List Own} {o:Op5} {v:Int} (h1:o.kind=1):KH p o ⟨0,v,[]⟩=(ED (C8 p.1 o.site) (B8 (C8 p.1 o.site) o.site) aF,p.2++[(v,o.site)]):=by
 unfold KH
 rw [if_pos h1,h1,iV]
 show (bmp (C8 p.1 o.site) o.site aF,p.2++[(v,o.site)])=_
 unfold bmp
 rw [if_pos FG]
theorem MN.alloc {x:Hp} {p:List BJ×List Own} {o:Op5} (hk:BO x) (h:MN x p) (h1:o.kind=1):MN (CG x o).1 (if (CG x o).2.code=0 then KH p o (CG x o).2 else p):=by
 have hk':=hk.step (o:=o)
 have es:CG x o=(⟨(GH x.AD x.sites o.site).1,x.B6,x.buffer,(GH x.AD x.sites o.site).2.1⟩,(GH x.AD x.sites o.site).2.2):=by unfold CG;rw [if_pos h1]
 rw [es] at hk' ⊢
 unfold GH at hk' ⊢
 split
 ·exact h.fB rfl rfl
 rename_i c1
 rw [if_neg c1] at hk'
 split
 ·exact h.fB rfl rfl
 rename_i c2
 rw [if_neg c2] at hk'
 split
 ·exact h.fB rfl rfl
 rename_i c3
 rw [if_neg c3] at hk'
 obtain ⟨a8,ea,hfree⟩:=LV c2
 have hol:=hk.ol
 generalize hs:o.site=s at hk' ⊢
 generalize (CO x.AD).toNat=a at a8 ea hfree hk' ⊢
 rw [ea] at hk' ⊢
 generalize w64 ((ob x.AD a).gen+1)=g at hk' ⊢
 obtain ⟨hst,hsit,hrg⟩:=oK h.nms s
 rw [hst,hsit] at hk' ⊢
 have hal:(ob x.AD a).live=false:=by simp [KB] at hfree;exact hfree.1
 rw [if_pos rfl]
 have e0:=cR (p:=p) (v:=B2 (a:Int) g) h1
 rw [hs] at e0
 rw [e0]
 have hf:=FG (R:=p.1) (s:=s)
 have hfs:=(qU hf).1
 have hlen:=WU (R:=p.1) (s:=s)
 generalize B8 (C8 p.1 s) s=i0 at hf hfs hk' ⊢
 generalize C8 p.1 s=R1 at hf hfs hrg hlen hk' ⊢
 have en:nm (ED R1 i0 aF)=nm R1:=RJ fun r=>rfl
 have rgs:=fun j=>Q9 (f:=aF) (j:=j) hf
 have oba: ∀k,ob (x.AD.set a (HH g (i0:Int))) k=if k=a then HH g (i0:Int) else ob x.AD k:=fun k=>DS (by omega)
 have a8':a<8:=by omega
 have up: ∀(w:AE→Int) (i:Nat),sm (tm (x.AD.set a (HH g (i0:Int))) w i) 8=sm (tm x.AD w i) 8+if i=i0 then w (HH g (i0:Int)) else 0:=fun w i=>by
  rw [Z3 (t:=tm x.AD w i) a8' fun j _ hj=>by unfold tm;rw [oba,if_neg hj]]
  congr 1
  unfold tm
  rw [oba,if_pos rfl,hal]
  simp only [HH,Bool.false_eq_true,false_and,if_false,true_and,Int.sub_zero]
  by_cases hi:i=i0
  ·subst hi;rw [if_pos rfl,if_pos rfl]
  ·rw [if_neg (by omega),if_neg hi]
 have none: ∀(w:AE→Int),sm (tm x.AD w p.1.length) 8=0:=fun w=>jT fun k k8=>by
  unfold tm
  rw [if_neg]
  rintro ⟨kv,ks⟩
  obtain ⟨i,a,b,_⟩:=h.own k k8 kv
  omega
 refine ⟨en,fun k k8 kv=> ?_,fun i hi=> ?_,fun i hi=> ?_,fun i hi=> ?_⟩
 ·simp only at kv ⊢
  rw [oba] at kv ⊢
  by_cases hka:k=a
  ·subst hka
   rw [if_pos rfl]
   refine ⟨i0,rfl,by rw [DJ];exact hf, ?_⟩
   rw [O1,if_pos (by simp [HH]),dL en,hfs]
  ·rw [if_neg hka] at kv ⊢
   obtain ⟨i,b,c,d⟩:=h.own k k8 kv
   refine ⟨i,b,by rw [DJ];omega, ?_⟩
   have hne:B2 (a:Int) g≠B2 (k:Int) (ob x.AD k).gen:=fun he=>by
    have:=MX hk' (k:=a) (m:=k) a8' (by simp only;rw [oba,if_pos rfl];rfl) k8 (by simp only;rw [oba,if_neg hka];exact kv) (by simp only;rw [oba,oba,if_pos rfl,if_neg hka];exact he)
    exact hka this.symm
   rw [O1,if_neg hne,d,dL en]
   rcases hrg i (by omega) with ⟨_,e⟩ | ⟨e,_⟩
   ·rw [e]
   ·omega
 ·simp only at hi ⊢
  rw [DJ] at hi
  have h0:(rg R1 i).al+(rg R1 i).re-(rg R1 i).rl=sm (tm x.AD (·.holds) i) 8:=by
   rcases hrg i hi with ⟨hi',e⟩ | ⟨e,e2⟩
   ·rw [e];exact h.hd i hi'
   ·rw [e2,e,none];rfl
  rw [up,rgs]
  by_cases hii:i=i0
  ·subst hii;rw [if_pos rfl,if_pos rfl, ←h0];simp only [aF,HH];omega
  ·rw [if_neg hii,if_neg hii,Int.add_zero];exact h0
 ·simp only at hi ⊢
  rw [DJ] at hi
  have h0:(rg R1 i).ro-(rg R1 i).un=sm (tm x.AD (·.roots) i) 8:=by
   rcases hrg i hi with ⟨hi',e⟩ | ⟨e,e2⟩
   ·rw [e];exact h.rt i hi'
   ·rw [e2,e,none];rfl
  rw [up,rgs]
  by_cases hii:i=i0
  ·subst hii;rw [if_pos rfl,if_pos rfl, ←h0];simp only [aF,HH];omega
  ·rw [if_neg hii,if_neg hii,Int.add_zero];exact h0
 ·simp only at hi ⊢
  rw [DJ] at hi
  have h0:(rg R1 i).al-(rg R1 i).fr=sm (tm x.AD (fun _=>1) i) 8:=by
   rcases hrg i hi with ⟨hi',e⟩ | ⟨e,e2⟩
   ·rw [e];exact h.lv i hi'
   ·rw [e2,e,none];rfl
  rw [up,rgs]
  by_cases hii:i=i0
  ·subst hii;rw [if_pos rfl,if_pos rfl, ←h0];simp only [aF];omega
  ·rw [if_neg hii,if_neg hii,Int.add_zero];exact h0
theorem MN.step {x:Hp} {p:List BJ×List Own} {o:Op5} (hk:BO x) (g:Gd x.AD x.buffer) (h:MN x p):MN (CG x o).1 (if (CG x o).2.code=0 then KH p o (CG x o).2 else p):=by
 by_cases h1:o.kind=1
 ·exact h.alloc hk h1
 have hk':=hk.step (o:=o)
 have en: ∀a:An,KH p o a=(frL (G4 p.1 p.2 o.a (kF o.kind)) p.2 a.freed,p.2):=fun a=>by unfold KH;rw [if_neg h1]
 have sr:IZ x.AD x.AD:=⟨rfl,fun i=>⟨rfl,rfl,rfl⟩⟩
 by_cases h2:o.kind=2∨o.kind=3∨o.kind=5∨o.kind=6
 ·have es:CG x o=(⟨(FH x.AD x.buffer o.kind o.a).1,x.B6,(FH x.AD x.buffer o.kind o.a).2.1,x.sites⟩,(FH x.AD x.buffer o.kind o.a).2.2):=by unfold CG;rw [if_neg h1,if_pos h2]
  rw [es] at hk' ⊢
  rcases dP (hk.hp.YM (id:=o.a) (kd:=o.kind)) with ⟨hc,e⟩ | ⟨hc,os1,ol1,S,hG,R,D⟩
  ·rw [if_neg hc];exact h.fB e rfl
  ·rw [if_pos hc,en]
   rcases ZQ x.AD o.a with hn | ⟨k,hsl⟩
   ·exfalso
    unfold FH at hc;rw [if_pos hn] at hc;simp at hc
   ·have hr:=fun k=>hk.hr k
    refine h.hold hk rfl S (Fre.sY hk hk' S R D fun j j8=> ?_) h2 hsl hG
    have hcode:=lP (buf:=x.buffer) hsl h2 (hr k).1 (hr k).2
    rw [hc] at hcode
    have hpos:0≤hdM o.kind (ob x.AD k).holds∧0≤rtM o.kind (ob x.AD k).roots:=by
     split at hcode
     ·omega
     ·split at hcode
      ·omega
      ·omega
    obtain ⟨_,_,_,a,b⟩:=hG j
    have hrj:=hr j
    rw [hsl] at a b
    by_cases hkj:(k:Int)=(j:Int)
    ·have hkj':k=j:=by omega
     subst hkj'
     rw [if_pos rfl] at a b
     rw [a,b];exact hpos
    ·rw [if_neg hkj] at a b
     omega
 ·have k2:o.kind≠2:=fun hh=>h2 (by omega)
  have k3:o.kind≠3:=fun hh=>h2 (by omega)
  have k5:o.kind≠5:=fun hh=>h2 (by omega)
  have k6:o.kind≠6:=fun hh=>h2 (by omega)
  have eb:G4 p.1 p.2 o.a (kF o.kind)=p.1:=fR k2 k3 k5 k6
  by_cases h4:o.kind=4
  ·have es:CG x o=(⟨(HJ x.AD x.buffer o.a o.b o.c).1,x.B6,(HJ x.AD x.buffer o.a o.b o.c).2.1,x.sites⟩,(HJ x.AD x.buffer o.a o.b o.c).2.2):=by unfold CG;rw [if_neg h1,if_neg (by omega),if_pos h4]
   rw [es] at hk' ⊢
   rcases dP (hk.hp.WE (a:=o.a) (b:=o.b) (c:=o.c)) with ⟨hc,e⟩ | ⟨hc,os1,ol1,S,hG,R,D⟩
   ·rw [if_neg hc];exact h.fB e rfl
   ·rw [if_pos hc,en,eb]
    have hr:=fun k=>hk.hr k
    exact h.IX hk rfl S (Fre.sY hk hk' S R D fun j j8=>by
     obtain ⟨_,_,a,b,_⟩:=hG j
     have:=hr j
     omega) fun j=>⟨(hG j).2.2.1,(hG j).2.2.2.1⟩
  ·by_cases h10:o.kind=10
   ·have es:CG x o=(⟨(F4 x.AD x.buffer).1,x.B6,[],x.sites⟩,⟨0,0,(F4 x.AD x.buffer).2⟩):=by unfold CG;rw [if_neg h1,if_neg (by omega),if_neg h4,if_neg (by omega),if_neg (by omega),if_pos h10]
    rw [es] at hk' ⊢
    rw [if_pos rfl,en,eb]
    exact h.IX hk rfl sr (Fre.lE hk g) fun k=>⟨rfl,rfl⟩
   ·have es:(CG x o).1.AD=x.AD∧(CG x o).1.sites=x.sites∧(CG x o).2.freed=[]:=by
     unfold CG
     rw [if_neg h1,if_neg (by omega),if_neg h4]
     split
     ·refine ⟨rfl,rfl, ?_⟩
      unfold MR;repeat' split
      all_goals rfl
     ·split
      ·refine ⟨rfl,rfl, ?_⟩
       unfold HW;repeat' split
       all_goals rfl
      ·exact ⟨rfl,rfl,rfl⟩
    split
    ·rw [en,eb,es.2.2];exact h.fB es.1 es.2.1
    ·exact h.fB es.1 es.2.1
end Go.Proofs.Ytklmcfpgdfibnaa.P
namespace Go.Proofs.Ytklmcfpgdfibnaa.P
open Go Go.Proofs.Ytklmcfpgdfibnaa Go.Proofs.Ytklmcfpgdfibnaa.Eng
set_option linter.unusedVariables false
set_option maxHeartbeats 4000000
set_option linter.unusedVariables false
set_option linter.unusedSimpArgs false
attribute [local irreducible] prP gP gE gF AJ ixW ldc ldg ldl stc stg scW mkW apW A6 cl2 BF CM CB
variable {w0:World}
theorem gR {x:Hp} {o:Op5}:(NK x o).2.freed.length≤8:=by
 by_cases hk:BO x
 ·rw [ON hk];exact hk.zS.len
 ·rw [dI hk];simp
attribute [local irreducible] CG
end Go.Proofs.Ytklmcfpgdfibnaa.P
namespace Go.Proofs.Ytklmcfpgdfibnaa.P
open Go Go.Proofs.Ytklmcfpgdfibnaa Go.Proofs.Ytklmcfpgdfibnaa.Eng
set_option linter.unusedVariables false
theorem jO {l:List Op5}: ∀i,i≤l.length→MN (DV l i).1 (FF l (DV l l.length).2 i)
 | 0,_=>by
   have hl: ∀k,(ob hp0.AD k).live=true→False:=fun k hv=>by
    have:(ob hp0.AD k).live=false:=by
     unfold hp0 ob;simp only;rw [List.getD_eq_getElem?_getD,List.getElem?_replicate]
     split <;> rfl
    rw [this] at hv;cases hv
   exact ⟨rfl,fun k _ kv=>absurd kv fun h=>hl k h,fun i hi=>by simp [FF] at hi,fun i hi=>by simp [FF] at hi,fun i hi=>by simp [FF] at hi⟩
 | i+1,h=>by
   have ih:=jO (l:=l) i (by omega)
   have:=ih.step (o:=po l i) (I9 l i).1 (aX l i)
   simp only [FF]
   rw [SE l l.length i (by omega)]
   exact this
theorem jP {t:Nat→Int} {B:Int} (hB:0≤B): ∀{n:Nat},(∀k,0≤t k∧t k≤B)→0≤sm t n∧sm t n≤n*B
 | 0,_=>by simp [sm]
 | n+1,h=>by
   have ih:=jP (t:=t) (B:=B) hB (n:=n) h
   have:=h n
   simp only [sm]
   have e:((n+1:Nat):Int)*B=n*B+B:=by push_cast;rw [Int.add_mul,Int.one_mul]
   omega
theorem yV {a b c d e:List T} {r:List (List T)}:nxc (a::b::c::d::e::r) 4=e:=rfl
theorem zC {a b c d e f:List T} {r:List (List T)}:nxc (a::b::c::d::e::f::r) 5=f:=rfl
theorem z7 {a b c d e f g:List T} {r:List (List T)}:nxc (a::b::c::d::e::f::g::r) 6=g:=rfl
def rvR (r:BJ):Value:= .agg #[.string r.s,I r.al,I r.re,I r.rl,I r.ro,I r.un,I r.fr]
theorem agR (r:BJ):agN (rvR r) 0= .string r.s∧agN (rvR r) 1=I r.al∧agN (rvR r) 2=I r.re∧agN (rvR r) 3=I r.rl∧agN (rvR r) 4=I r.ro∧agN (rvR r) 5=I r.un∧agN (rvR r) 6=I r.fr:=⟨rfl,rfl,rfl,rfl,rfl,rfl,rfl⟩
theorem xG {R:List BJ} {i:Nat} {K:Value→Prop} (hi:i<R.length) (h:K (rvR (rg R i))):lda (tR DR R) [] (AB (iv i)*7) [.c, .c, .c, .c, .c, .c, .c] K:=by
 obtain ⟨ts,h1,h2,h3⟩:=SD (f:=DR) (e:=7) (l:=R) hi (ks:=[.c, .c, .c, .c, .c, .c, .c]) (K:=fun ts=>ts=DR (rg R i)) rfl rfl (by rw [I6 hi])
 refine ⟨ts,h1,h2, ?_⟩
 rw [h3];exact h
theorem rZ {R:List BJ} {i:Nat} {K:List T→Prop} (hi:i<R.length) (h:K (DR (rg R i))):ldg (tR DR R) [] (AB (iv i)*7) [.c, .c, .c, .c, .c, .c, .c] K:=by
 rw [←I6 hi] at h;exact SD hi rfl rfl h
theorem tvR (r:BJ):tv (nxT (DR r) 0)= .string r.s∧tv (nxT (DR r) 1)=I r.al∧tv (nxT (DR r) 2)=I r.re∧tv (nxT (DR r) 3)=I r.rl∧tv (nxT (DR r) 4)=I r.ro∧tv (nxT (DR r) 5)=I r.un∧tv (nxT (DR r) 6)=I r.fr:=⟨rfl,rfl,rfl,rfl,rfl,rfl,rfl⟩
theorem yH : (Try.prog.fieldsOf 68).toList = [fS "Site" 0 0, fI "Allocs" 1 16, fI "Retains" 2 24, fI "Releases" 3 32, fI "Roots" 4 40, fI "Unroots" 5 48, fI "Frees" 6 56] := by kernel_rfl
theorem X5 {r:BJ} {K:Value→Prop} (h:K (.bool false)):prP (bnA Try.prog .neq 68 (.agg #[.string r.s,I r.al,I r.re,I r.rl,I r.ro,I r.un,I r.fr]) (.agg #[.string r.s,I r.al,I r.re,I r.rl,I r.ro,I r.un,I r.fr])) K:=by
 have e:=rQ (P:=Try.prog) (t:=68) (xs:= #[.string r.s,I r.al,I r.re,I r.rl,I r.ro,I r.un,I r.fr]) (ys:= #[.string r.s,I r.al,I r.re,I r.rl,I r.ro,I r.un,I r.fr]) (r:=true) (by simp [plain]) (by simp [plain]) (by kernel_rfl) (by kernel_rfl) (by kernel_rfl) (by
  rw [yH,Bc (by decide) rfl rfl,mB (by decide) rfl rfl,mB (by decide) rfl rfl,mB (by decide) rfl rfl,mB (by decide) rfl rfl,mB (by decide) rfl rfl,mB (by decide) rfl rfl]
  have en:CF Try.prog (Op.eqFields 9999 #[.string r.s,I r.al,I r.re,I r.rl,I r.ro,I r.un,I r.fr] #[.string r.s,I r.al,I r.re,I r.rl,I r.ro,I r.un,I r.fr] [])=some true:=rfl
  rw [en]
  simp)
 rw [e]
 exact CJ rfl h
set_option maxHeartbeats 4000000
set_option linter.unusedVariables false
set_option linter.unusedSimpArgs false
attribute [local irreducible] prP gP gE gF AJ ixW ldc ldg ldl stc stg scW mkW apW A6 cl2 BF CM CB
variable {w0:World}
theorem TZ {R:List BJ} {K:J2} (hl:(R.length:Int)<2^62) (h:K [.bool true] []):cl2 ⟨Try.prog,w0⟩ 51 D5.sg [] [tR DR R,tR DR R] K:=by
 refine D5.cl2 ?_
 unfold D5.txt
 try simp only [GY]
 refine C0 (F9 (fun hh=>hh rfl) ?_)
 refine BK (fun i=>[iv R.length,iv i]) (fun _=>[]) R.length (fun _=>True) rfl rfl trivial (fun F i hi _ hR=> ?_)
 simp only [AN,AV,AK,AM,AU,AH,AL,AW,AO,AR,AS,AQ,AT,AP,BQ,BU,BY,BX,BZ,BW,BT,A7,BA,BB,A9,BC,A8]
 refine A4 (AY (fun hlt=> ?_) fun hge=>h)
 have hlt:i<R.length:=by omega
 refine AG hlt (rZ hlt (AG hlt (rZ hlt ?_)))
 obtain ⟨t0,t1,t2,t3,t4,t5,t6⟩:=tvR (rg R i)
 rw [t0,t1,t2,t3,t4,t5,t6]
 exact X5 (B7 (BD (by omega) (hR hlt trivial)))
theorem TS {R:List BJ} {K:J2} (hl:(R.length:Int)<2^62) (h:K [.bool true] []):cl2 ⟨Try.prog,w0⟩ 49 D7.sg [] [tR DR R,tR DR R] K:=by
 refine D7.cl2 ?_
 unfold D7.txt
 try simp only [GY]
 refine C0 (F9 (fun hh=>hh rfl) ?_)
 refine BK (fun i=>[iv i]) (fun _=>[]) R.length (fun _=>True) rfl rfl trivial (fun F i hi _ hR=> ?_)
 simp only [AN,AV,AK,AM,AU,AH,AL,AW,AO,AR,AS,AQ,AT,AP,BQ,BU,BY,BX,BZ,BW,BT,A7,BA,BB,A9,BC,A8]
 refine A4 (AY (fun hlt=> ?_) fun hge=>h)
 have hlt:i<R.length:=by omega
 refine AG hlt (rZ hlt (AG hlt (rZ hlt ?_)))
 obtain ⟨t0,t1,t2,t3,t4,t5,t6⟩:=tvR (rg R i)
 rw [t0,t1,t2,t3,t4,t5,t6]
 exact X5 (B7 (BD (by omega) (hR hlt trivial)))
theorem XK {r:BJ} {K:J2} (h1:(0≤r.al∧r.al≤2^61)∧(0≤r.re∧r.re≤2^61)∧(0≤r.rl∧r.rl≤2^61)) (h:K [I (r.al+r.re-r.rl)] []):cl2 ⟨Try.prog,w0⟩ 46 FP.sg [.string r.s,I r.al,I r.re,I r.rl,I r.ro,I r.un,I r.fr] [] K:=by
 refine FP.cl2 ?_
 unfold FP.txt
 exact EB ⟨by omega,by omega⟩ (F8 ⟨by omega,by omega⟩ h)
theorem TT {r:BJ} {K:J2} (h1:(0≤r.ro∧r.ro≤2^61)∧(0≤r.un∧r.un≤2^61)) (h:K [I (r.ro-r.un)] []):cl2 ⟨Try.prog,w0⟩ 47 EA.sg [.string r.s,I r.al,I r.re,I r.rl,I r.ro,I r.un,I r.fr] [] K:=by
 refine EA.cl2 ?_
 unfold EA.txt
 exact F8 ⟨by omega,by omega⟩ h
theorem XA {r:BJ} {K:J2} (h1:(0≤r.al∧r.al≤2^61)∧(0≤r.fr∧r.fr≤2^61)) (h:K [I (r.al-r.fr)] []):cl2 ⟨Try.prog,w0⟩ 48 FO.sg [.string r.s,I r.al,I r.re,I r.rl,I r.ro,I r.un,I r.fr] [] K:=by
 refine FO.cl2 ?_
 unfold FO.txt
 exact F8 ⟨by omega,by omega⟩ h
attribute [local irreducible] DV FF
theorem bB {L:List Int} (g:UM L) {K:J2} (done:K [.bool true] []):EG.txt ⟨Try.prog,w0⟩ (tY L) K:=by
 unfold EG.txt
 refine dU (AY (fun _=>done) fun hsz=> ?_)
 have hb:=g.f hsz
 refine TX hb fun l hl ho=>cW (by omega) ho ?_
 rw [show min l.length 400=l.length by omega]
 have inv:=jO (l:=l) l.length (Nat.le_refl _)
 have ok:=(I9 l l.length).1
 have al:=(I9 l l.length).2
 have hf: ∀k,k<l.length→(an (DV l l.length).2 k).freed.length≤8:=fun k hk=>by
  rw [SE l l.length k hk, ←ON (I9 l k).1]
  exact gR
 have hbw: ∀n,n≤l.length→bW (DV l l.length).2 n≤10*n:=fun n=>by
  induction n with
  | zero=>intro _;simp [bW]
  | succ n ih=>intro hn;have:=ih (by omega);have:=hf n (by omega);simp only [bW];omega
 have hbd:=(T3 (l:=l) (a:=(DV l l.length).2) l.length)
 have hbl:=hbw l.length (Nat.le_refl _)
 have hI:=fun {K:J2} (hK:K [] [tR DR (FF l (DV l l.length).2 l.length).1])=>XI (w0:=w0) (l:=l) (a:=(DV l l.length).2) (K:=K) (by omega) (by omega) (fun n hn=>by have:=hbw n (by omega);omega) (by rw [al,Nat.min_self];exact hK)
 have hS:=fun {K:J2} (hK:K [] [tR DR (FF l (DV l l.length).2 l.length).1])=>XG (w0:=w0) (l:=l) (a:=(DV l l.length).2) (K:=K) (by omega) (by omega) (fun n hn=>by have:=hbw n (by omega);omega) (by rw [al,Nat.min_self];exact hK)
 obtain ⟨hbd,hlen,_⟩:=hbd
 generalize FF l (DV l l.length).2 l.length=p at inv hI hS hbd hlen
 obtain ⟨R,W⟩:=p
 generalize bW (DV l l.length).2 l.length=bw at hbd hbl
 generalize (DV l l.length).2=a at al hI hS ⊢
 generalize (DV l l.length).1=x at inv ok ⊢
 simp only at inv hI hS hbd hlen
 simp only [trees,List.cons_append,List.nil_append]
 simp only [AN,AV,AK,AM,AU,AH,AL,AW,AO,AR,AS,AQ,AT,AP,BQ,BU,BY,BX,BZ,BW,BT,A7,BA,BB,A9,BC,A8]
 refine hI ?_
 try simp only [A7,GY,AL]
 have hsl:R.length=x.sites.length:=by rw [←inv.nms];simp [nm]
 have hs:=ok.sites.len
 have ol:=ok.ol
 refine C0 (F9 (by omega) ?_)
 refine BK (fun i=>[iv i]) (fun _=>[tR tP l,tR tA a,tR DR R,tR tO x.AD,tR tW x.B6,tI x.buffer,tS x.sites]) R.length (fun _=>True) rfl rfl trivial (fun F i hi _ hR=> ?_)
 simp only [AN,AV,AK,AM,AU,AH,AL,AW,AO,AR,AS,AQ,AT,AP,BQ,BU,BY,BX,BZ,BW,BT,A7,BA,BB,A9,BC,A8]
 try simp only [GY]
 refine A4 (AY (fun hlt=> ?_) fun hge=> ?_)
 ·have hlt:i<R.length:=by omega
  have hR:=hR hlt trivial
  have hrr:=ok.hr
  have b1: ∀n,0≤sm (tm x.AD (·.holds) i) n∧sm (tm x.AD (·.holds) i) n≤n*20:=fun n=>jP (by decide) fun k=>by have:=hrr k;unfold tm;simp only;split <;> omega
  have b2: ∀n,0≤sm (tm x.AD (·.roots) i) n∧sm (tm x.AD (·.roots) i) n≤n*20:=fun n=>jP (by decide) fun k=>by have:=hrr k;unfold tm;simp only;split <;> omega
  have b3: ∀n,0≤sm (tm x.AD (fun _=>1) i) n∧sm (tm x.AD (fun _=>1) i) n≤n*20:=fun n=>jP (by decide) fun k=>by unfold tm;simp only;split <;> omega
  refine BK (fun k=>[iv i,I (sm (tm x.AD (·.holds) i) k),I (sm (tm x.AD (·.roots) i) k),I (sm (tm x.AD (fun _=>1) i) k),iv k]) (fun _=>[tR tP l,tR tA a,tR DR R,tR tO x.AD,tR tW x.B6,tI x.buffer,tS x.sites]) 8 (fun _=>True) rfl rfl trivial (fun G k hk _ hG=> ?_)
  have c1:=b1 k
  have c2:=b2 k
  have c3:=b3 k
  simp only [AN,AV,AK,AM,AU,AH,AL,AW,AO,AR,AS,AQ,AT,AP,BQ,BU,BY,BX,BZ,BW,BT,A7,BA,BB,A9,BC,A8]
  try simp only [yV,zC,z7,AN,GY,AL]
  refine A4 (AY (fun hlk=> ?_) fun hgk=> ?_)
  ·have hlk:k<8:=by omega
   have hkl:k<x.AD.length:=by omega
   have hG:=hG hlk trivial
   simp only [sm] at hG
   refine BV (AG hkl (KL hkl (v:= .bool (ob x.AD k).live) rfl ?_))
   have no: ¬((ob x.AD k).live=true∧(ob x.AD k).site=(i:Int))→G [iv i,I (sm (tm x.AD (·.holds) i) k),I (sm (tm x.AD (·.roots) i) k),I (sm (tm x.AD (fun _=>1) i) k),iv (k+1)] [tR tP l,tR tA a,tR DR R,tR tO x.AD,tR tW x.B6,tI x.buffer,tS x.sites]:=fun hn=>by
    simp only [tm,if_neg hn,Int.add_zero] at hG
    exact hG
   cases hv:(ob x.AD k).live with
   | false=>exact BH (BH (BH (GF (BH (GF (BH (GF (SO rfl (B7 (BD (by omega) (no (by simp [hv]))))))))))))
   | true=>
     refine BH (BH (BH (GO (AG hkl (BH (GO (KC (c:=2) hkl (by decide) (v:=I (ob x.AD k).site) rfl (BH (GO (BM (NX rfl (AY (fun he=> ?_) fun he=> ?_))))))))))))
     ·have hr:=hrr k
      simp only [tm,if_pos (show (ob x.AD k).live=true∧(ob x.AD k).site=(i:Int) from ⟨hv,he⟩)] at hG
      exact AG hkl (KC (c:=3) hkl (by decide) rfl (EB ⟨by omega,by omega⟩ (AG hkl (KC (c:=4) hkl (by decide) rfl (EB ⟨by omega,by omega⟩ (EB ⟨by omega,by omega⟩ (BD (by omega) hG)))))))
     ·exact BD (by omega) (no fun hh=>he hh.2)
  ·have:k=8:=by omega
   subst this
   have hsl':i<x.sites.length:=by omega
   have hname:(rg R i).s=gS x.sites i:=by
    rw [xU,inv.nms]
    unfold gS
    rfl
   have hrb:=hbd _ (QL hlt)
   have h1:=inv.hd i hlt
   have h2:=inv.rt i hlt
   have h3:=inv.lv i hlt
   simp only at h1 h2 h3
   rw [←h1, ←h2, ←h3]
   obtain ⟨g0,g1,g2,g3,g4,g5,g6⟩:=agR (rg R i)
   have p0: ¬(rg R i).s≠gS x.sites i:=fun hh=>hh hname
   have p1: ¬(rg R i).al+(rg R i).re-(rg R i).rl≠(rg R i).al+(rg R i).re-(rg R i).rl:=fun hh=>hh rfl
   have p2: ¬(rg R i).ro-(rg R i).un≠(rg R i).ro-(rg R i).un:=fun hh=>hh rfl
   have p3: ¬(rg R i).al-(rg R i).fr≠(rg R i).al-(rg R i).fr:=fun hh=>hh rfl
   refine AG hlt (JT hlt (v:= .string (rg R i).s) (by rw [I6 hlt];rfl) (AG hsl' (ldS hsl' (pB (BH (BH (G6 p0 (AG hlt (G6 p0 (xG hlt ?_))))))))))
   rw [g0,g1,g2,g3,g4,g5,g6]
   refine G6 p0 (XK (by omega) (BH (G6 p0 (C0 (F7 p0 rfl (BH (BH (G6 p1 (AG hlt (G6 p1 (xG hlt ?_)))))))))))
   rw [g0,g1,g2,g3,g4,g5,g6]
   refine G6 p1 (TT (by omega) (BH (G6 p1 (C0 (F7 p1 rfl (BH (BH (G6 p2 (AG hlt (G6 p2 (xG hlt ?_)))))))))))
   rw [g0,g1,g2,g3,g4,g5,g6]
   exact G6 p2 (XA (by omega) (BH (G6 p2 (C0 (F7 p2 rfl (F9 p3 (BD (by omega) hR)))))))
 ·refine hS ?_
  try simp only [A7]
  refine TS (by omega) (BH (BH (GO (TZ (by omega) (NX rfl done)))))
end Go.Proofs.Ytklmcfpgdfibnaa.P
