/- A part of the proof. -/
import Derived.Test.YtklmcfpgdfibnaaKeWayB
namespace Go.Proofs.Ytklmcfpgdfibnaa.P
open Go Go.Proofs.Ytklmcfpgdfibnaa Go.Proofs.Ytklmcfpgdfibnaa.Eng
set_option linter.unusedVariables false
theorem WW {h:Hp} (hk:B1 h):qO (h.AD.map HE):=fun i hi hv=>by
 rw [PX] at hv ⊢
 exact vE hk i hi hv
theorem pK {h:Hp}: ∀i,i<8→(nd (h.AD.map HE) i).live=(ob h.AD i).live∧(nd (h.AD.map HE) i).gen=(ob h.AD i).gen:=fun i _=>by rw [PX];exact ⟨rfl,rfl⟩
theorem J8.IT {h:Hp} {o:Op5} {code:Int} (hk:B1 h) (hc:code=(CD h o).2.code) (hs:(CD h o).1.AD=h.AD) (hf:(CD h o).2.freed=[]):J8 h o (h.AD.map HE) code []:=⟨hc,iQ hk hk.KE,by rw [hs];exact pK,by rw [hf],List.Pairwise.nil⟩
theorem J8.gone {h:Hp} {o:Op5} {a1 a':List Nd} {fr out:List Int} {os1:List AU} (hc:(CD h o).2.code=0) (sg:LB (osN a1) os1) (G:pT a1 a' fr out) (R:HX os1 (CD h o).1.AD (CD h o).2.freed) (D:JN os1 (CD h o).1.AD) (E: ∀i,i<8→(ob (CD h o).1.AD i).live=true→PT (CD h o).1.AD i):J8 h o a' 0 out:=by
 obtain ⟨h1,h2⟩:=mT sg G.R R G.D D G.E E
 refine ⟨hc.symm,G.nok,fun i hi=> ?_,G.pm.trans h2,G.so⟩
 have:=h1 i hi
 rw [GO] at this
 exact this
theorem oG {h:Hp} (hk:B1 h) {x y z:Int} {s:ByteArray} (hr:AB h.AD x<0∨(z≠ -1∧AB h.AD z<0)):J8 h ⟨4,x,y,z,s⟩ (h.AD.map HE) 1 []:=by
 have e:EO h.AD h.buffer x y z=(h.AD,h.buffer,⟨1,0,[]⟩):=by unfold EO;rw [if_pos hr]
 have es:CD h ⟨4,x,y,z,s⟩=(⟨h.AD,h.BW,h.buffer,h.sites⟩,⟨1,0,[]⟩):=by
  unfold CD
  simp only [show ¬(4:Int)=1 by decide,show ¬((4:Int)=2∨(4:Int)=3∨(4:Int)=5∨(4:Int)=6) by decide,if_false,if_true]
  rw [e]
 exact J8.IT hk (by rw [es]) (by rw [es]) (by rw [es])
theorem gX {h:Hp} (hk:B1 h) {x y z:Int} {s:ByteArray} (hr: ¬(AB h.AD x<0∨(z≠ -1∧AB h.AD z<0))) (hb: ¬(0≤y∧y≤2)):J8 h ⟨4,x,y,z,s⟩ (h.AD.map HE) 2 []:=by
 have e:EO h.AD h.buffer x y z=(h.AD,h.buffer,⟨2,0,[]⟩):=by unfold EO;rw [if_neg hr,if_pos hb]
 have es:CD h ⟨4,x,y,z,s⟩=(⟨h.AD,h.BW,h.buffer,h.sites⟩,⟨2,0,[]⟩):=by
  unfold CD
  simp only [show ¬(4:Int)=1 by decide,show ¬((4:Int)=2∨(4:Int)=3∨(4:Int)=5∨(4:Int)=6) by decide,if_false,if_true]
  rw [e]
 exact J8.IT hk (by rw [es]) (by rw [es]) (by rw [es])
theorem pY {h:Hp} (hk:B1 h) {x y z:Int} {s:ByteArray} {k:Nat} (hr: ¬(AB h.AD x<0∨(z≠ -1∧AB h.AD z<0))) (hb:0≤y∧y≤2) (hx:AB h.AD x=(k:Int)) {a':List Nd} {fr out:List Int} (G:pT ((h.AD.map HE).set k {nd (h.AD.map HE) k with field:=(nd (h.AD.map HE) k).field.set y.toNat z}) a' fr out):J8 h ⟨4,x,y,z,s⟩ a' 0 out:=by
 have hol:=hk.ol
 have k8:=(I3 hx).1
 have hc:(EO h.AD h.buffer x y z).2.2.code=0:=by rw [hC,if_neg hr,if_neg (fun hh=>hh hb)]
 have es:CD h ⟨4,x,y,z,s⟩=(⟨(EO h.AD h.buffer x y z).1,h.BW,(EO h.AD h.buffer x y z).2.1,h.sites⟩,(EO h.AD h.buffer x y z).2.2):=by
  unfold CD
  simp only [show ¬(4:Int)=1 by decide,show ¬((4:Int)=2∨(4:Int)=3∨(4:Int)=5∨(4:Int)=6) by decide,if_false,if_true]
 rcases (hk.hp.Y2 (a:=x) (b:=y) (c:=z)).res hol with ⟨hn,_⟩ | ⟨_,os1,_,hG,R,D,E⟩
 ·exact absurd hc hn
 ·refine J8.gone (os1:=os1) (by rw [es];exact hc) (fun i hi=> ?_) G (by rw [es];exact R) (by rw [es];exact D) (by rw [es];exact E)
  obtain ⟨g1,g2,g3,g4,g5⟩:=hG i
  rw [GO,QG (by simp;omega),g1,g2,g3,g4,g5]
  by_cases hik:i=k
  ·subst hik
   rw [if_pos rfl,if_pos hx,PX]
   exact ⟨rfl,rfl,rfl,rfl,rfl⟩
  ·rw [if_neg hik,if_neg (by omega),PX]
   exact ⟨rfl,rfl,rfl,rfl,rfl⟩
theorem O5 {h:Hp} (hk:B1 h) (x:Int):AB (osN (h.AD.map HE)) x=AB h.AD x:=(WK h.AD).slot (by simpa using hk.ol) hk.ol x
theorem dW {h:Hp} (hk:B1 h) {i:Nat} (hi:i<8):inQ (grQ (h.AD.map HE)) (i:Int)↔Rch h.AD i:=by
 have l8:(osN (h.AD.map HE)).length=8:=by simpa using hk.ol
 have sg:=WK h.AD
 rw [z0 (by simpa using hk.ol) (fun j hj hv=>by
  rw [GO] at hv ⊢
  exact WW hk j hj hv),(wG _ _ _).2 i,vW,sg.exts l8 hk.ol, ←uJ hk]
 exact ⟨fun hh=>sg.rb l8 hk.ol hh,fun hh=>sg.symm.rb hk.ol l8 hh⟩
theorem u9 {h:Hp} (hk:B1 h) (g:Gd h.AD h.buffer) {x y z:Int} {s:ByteArray} {a':List Nd} {out:List Int} (n':NOk a') (ha: ∀i,i<8→nd a' i=if (nd (h.AD.map HE) i).live=true∧ ¬inQ (grQ (h.AD.map HE)) (i:Int) then MB (nd (h.AD.map HE) i).gen else nd (h.AD.map HE) i) (pm:out.Perm (swL (h.AD.map HE) 8)) (so:out.Pairwise (· ≤ ·)):J8 h ⟨10,x,y,z,s⟩ a' 0 out:=by
 have hol:=hk.ol
 have R:=jC hk.hp g
 have es:CD h ⟨10,x,y,z,s⟩=(⟨(GZ h.AD h.buffer).1,h.BW,[],h.sites⟩,⟨0,0,(GZ h.AD h.buffer).2⟩):=by
  unfold CD
  simp only [show ¬(10:Int)=1 by decide,show ¬((10:Int)=2∨(10:Int)=3∨(10:Int)=5∨(10:Int)=6) by decide,show ¬(10:Int)=4 by decide,show ¬(10:Int)=7 by decide,show ¬((10:Int)=8∨(10:Int)=9) by decide,if_false,if_true]
 refine ⟨by rw [es],n',fun i hi=> ?_, ?_,so⟩
 ·rw [es,ha i hi,PX]
  have lv:=R.lv i hi
  have gn:=R.gn i hi
  have gr:=dW hk hi
  show _=(ob (GZ h.AD h.buffer).1 i).live∧_=(ob (GZ h.AD h.buffer).1 i).gen
  rw [gn]
  by_cases hc:(HE (ob h.AD i)).live=true∧ ¬inQ (grQ (h.AD.map HE)) (i:Int)
  ·rw [if_pos hc]
   refine ⟨?_,rfl⟩
   cases hv:(ob (GZ h.AD h.buffer).1 i).live with
   | false=>rfl
   | true=>exact absurd (gr.2 (lv.1 hv)) hc.2
  ·rw [if_neg hc]
   refine ⟨?_,rfl⟩
   rw [Bool.eq_iff_iff,lv]
   constructor
   ·intro hv;exact gr.1 (Classical.byContradiction fun hn=>hc ⟨hv,hn⟩)
   ·intro hr;exact hr.live.2
 ·rw [es]
  have e:swL (h.AD.map HE) 8=(GZ h.AD h.buffer).2:=by
   have wi: ∀k,k<8→(ob h.AD k).live=true→(I7 h.AD (fun i=>(ob h.AD i).count) h.buffer k=true↔ ¬Rch h.AD k):=fun k k8 kv=>aQ hk.hp g k8 kv
   have wl: ∀k,I7 h.AD (fun i=>(ob h.AD i).count) h.buffer k=true→(ob h.AD k).live=true:=fun k hw=>(JF.1 hw).1.live
   unfold swL GZ JP
   simp only
   refine S8 fun i hi=> ?_
   rw [PX]
   have gr:=dW hk hi
   by_cases hw:I7 h.AD (fun i=>(ob h.AD i).count) h.buffer i=true
   ·have hv:=wl i hw
    rw [if_pos hw,if_pos ⟨hv,fun hh=>(wi i hi hv).1 hw (gr.1 hh)⟩];rfl
   ·rw [if_neg hw,if_neg]
    rintro ⟨hv,hn⟩
    exact hw ((wi i hi hv).2 fun hh=>hn (gr.2 hh))
  rw [←e];exact pm
theorem zY {a0 a1 a2 a3 a4 a5 a6:List T} {r:List (List T)}:nxc (a0::a1::a2::a3::a4::a5::a6::r) 6=a6:=rfl
theorem yY {a0 a1 a2 a3 a4 a5 a6 a7:List T} {r:List (List T)}:nxc (a0::a1::a2::a3::a4::a5::a6::a7::r) 7=a7:=rfl
theorem z7 {a0 a1 a2 a3 a4 a5 a6 a7 a8:List T} {r:List (List T)}:nxc (a0::a1::a2::a3::a4::a5::a6::a7::a8::r) 8=a8:=rfl
theorem yA {a0 a1 a2 a3 a4 a5 a6 a7 a8 a9:List T} {r:List (List T)}:nxc (a0::a1::a2::a3::a4::a5::a6::a7::a8::a9::r) 9=a9:=rfl
set_option maxHeartbeats 4000000
set_option linter.unusedVariables false
set_option linter.unusedSimpArgs false
attribute [local irreducible] prP gP gE gF AX ixW ldc ldg ldl stc stg scW mkW apW BE cl2 BS DF CB
variable {w0:World}
theorem fI {h:Hp} (hk:B1 h) {kd x y z:Int} {s:ByteArray} {d e:List T} {K:J2} (ha:F64 x) (hkd:kd=2∨kd=3∨kd=5∨kd=6) (hK: ∀(a':List Nd) (code:Int) (out:List Int),J8 h ⟨kd,x,y,z,s⟩ a' code out→K [I code,I 0] [tR tN a',tI out]):cl2 ⟨Try.prog,w0⟩ 135 GA.sg [I kd,I x,I y,I z, .string s] [tR tN (h.AD.map HE),d,e] K:=by
 have hol:=hk.ol
 have na:=iQ hk hk.KE
 have es:CD h ⟨kd,x,y,z,s⟩=(⟨(FG h.AD h.buffer kd x).1,h.BW,(FG h.AD h.buffer kd x).2.1,h.sites⟩,(FG h.AD h.buffer kd x).2.2):=by
  unfold CD
  simp only
  rw [if_neg (by omega),if_pos hkd]
 have M:=(hk.hp.aV (id:=x) (kd:=kd)).res hol
 have code: ∀k:Nat,AB (osN (h.AD.map HE)) x=(k:Int)→(FG h.AD h.buffer kd x).2.2.code=if hdM kd (nd (h.AD.map HE) k).holds>20∨rtM kd (nd (h.AD.map HE) k).roots>20 then 4 else if hdM kd (nd (h.AD.map HE) k).holds<0∨rtM kd (nd (h.AD.map HE) k).roots<0 then 5 else 0:=fun k hs=>by
  rw [O5 hk] at hs
  rw [PX]
  exact nG hs hkd (hk.hr k).1 (hk.hr k).2
 refine ZP na (WW hk) ha hkd (fun h1=> ?_) (fun k hs c1=> ?_) (fun k hs c1 c2=> ?_) (fun k hs c1 c2 a' fr out G=> ?_)
 ·rw [O5 hk] at h1
  have e:FG h.AD h.buffer kd x=(h.AD,h.buffer,⟨1,0,[]⟩):=by unfold FG;rw [if_pos h1]
  exact hK _ 1 [] (J8.IT hk (by rw [es,e]) (by rw [es,e]) (by rw [es,e]))
 ·have hc:=code k hs
  rw [if_pos c1] at hc
  rcases M with ⟨_,m1,m2⟩ | ⟨m0,_⟩
  ·exact hK _ 4 [] (J8.IT hk (by rw [es];exact hc.symm) (by rw [es];exact m1) (by rw [es];exact m2))
  ·omega
 ·have hc:=code k hs
  rw [if_neg c1,if_pos c2] at hc
  rcases M with ⟨_,m1,m2⟩ | ⟨m0,_⟩
  ·exact hK _ 5 [] (J8.IT hk (by rw [es];exact hc.symm) (by rw [es];exact m1) (by rw [es];exact m2))
  ·omega
 ·have hc:=code k hs
  rw [if_neg c1,if_neg c2] at hc
  rcases M with ⟨m0,_⟩ | ⟨_,os1,_,hG,R,D,E⟩
  ·exact absurd hc m0
  ·refine hK a' 0 out (J8.gone (os1:=os1) (by rw [es];exact hc) (fun i hi=> ?_) G (by rw [es];exact R) (by rw [es];exact D) (by rw [es];exact E))
   rw [O5 hk] at hs
   have k8:=(I3 hs).1
   obtain ⟨g1,g2,g3,g4,g5⟩:=hG i
   rw [GO,QG (by simp;omega),g1,g2,g3,g4,g5]
   by_cases hik:i=k
   ·subst hik
    rw [if_pos rfl,if_pos hs,if_pos hs,PX]
    exact ⟨rfl,rfl,rfl,rfl,rfl⟩
   ·rw [if_neg hik,if_neg (by omega),if_neg (by omega),PX]
    exact ⟨rfl,rfl,rfl,rfl,rfl⟩
theorem aS {os:List AU} {ws:List Wk} {id:Int}:(HO os ws id).2.freed=[]:=by unfold HO;split <;> (try split) <;> rfl
theorem VS {os:List AU} {ws:List Wk} {kd k:Int}:(CX os ws kd k).2.freed=[]:=by unfold CX;split <;> (try split) <;> (try split) <;> (try split) <;> rfl
theorem VA {h:Hp} {o:Op5} {K:J2} (hk:B1 h) (g:Gd h.AD h.buffer) (ha:F64 o.a) (hc:F64 o.c) (hK: ∀(a':List Nd) (ws' ss':List T) (code val:Int) (out:List Int),J8 h o a' code out→K [I code,I val] [tR tN a',ws',ss',tI out]):cl2 ⟨Try.prog,w0⟩ 84 ES.sg [I o.kind,I o.a,I o.b,I o.c, .string o.site] [tR tN (h.AD.map HE),tR tW h.BW,tS h.sites] K:=by
 have hol:=hk.ol
 have na:=iQ hk hk.KE
 have hwl:=hk.wl
 have hsl:=hk.sites.len
 have hwf:=hk.KE.weak
 refine ES.cl2 ?_
 unfold ES.txt
 refine ZU na hwl hsl (YB na (fun i hi=>by rw [PX];exact (hk.obj i hi).gen.2) hwl hsl (B2 (BU ?_)))
 obtain ⟨kd,x,y,z,s⟩:=o
 simp only at ha hc hK
 simp only [AI,AO,AM,AS,AH,AE,AG,AK,AN,AP,AR,AT,AQ,AL,BD,BJ,BL,BK,BM,BN,BG,A4,AZ,A6,A8,A5,A7]
 rcases kinds kd with rfl | hkd | rfl | rfl | hkd | rfl | hkd
 ·refine BF (CY rfl (YS na hsl fun a' ss' v n' sm=> ?_))
  obtain ⟨e1,e2⟩:=h9 (ss:=h.sites) (s:=s) (show (osN (h.AD.map HE)).length=8 by simpa using hol) hol fun i hi=>⟨(WK h.AD i hi).1,(WK h.AD i hi).2.1⟩
  have es:CD h ⟨1,x,y,z,s⟩=(⟨(DD h.AD h.sites s).1,h.BW,h.buffer,(DD h.AD h.sites s).2.1⟩,(DD h.AD h.sites s).2.2):=by
   unfold CD;simp only [if_true]
  have ef:(DD h.AD h.sites s).2.2.freed=[]:=by unfold DD;split <;> (try split) <;> (try split) <;> rfl
  exact hK a' _ _ _ _ [] ⟨by rw [es];exact e1,n',fun i hi=>by rw [es,(sm i hi).1,(sm i hi).2];exact e2 i hi,by rw [es,ef],List.Pairwise.nil⟩
 ·have hh: ∀{K':J2},(∀(a':List Nd) (code:Int) (out:List Int),J8 h ⟨kd,x,y,z,s⟩ a' code out→K' [I code,I 0] [tR tN a',tI out])→cl2 ⟨Try.prog,w0⟩ 135 GA.sg [I kd,I x,I y,I z, .string s] [tR tN (h.AD.map HE),tR tW h.BW,tS h.sites] K':=fun hK'=>fI hk ha hkd hK'
  rcases hkd with rfl | rfl | rfl | rfl
  all_goals
   repeat' (first | refine BP ?_ | refine BV ?_ | refine BU ?_ | refine BF ?_ | simp only [AI,AO,AM,AS,AH,AE,AG,AK,AN,AP,AR,AT,AQ,AL,BD,BJ,BL,BK,BM,BN,BG,A4,AZ,A6,A8,A5,A7])
   exact hh fun a' code out G=>hK a' _ _ code 0 out G
 ·have sx:=O5 hk x
  have sz:=O5 hk z
  repeat' (first | refine BP ?_ | refine I2 ha (by simp;omega) ?_ | refine I2 hc (by simp;omega) ?_ | refine BC ?_ | refine PW ?_ | refine lW ?_ | refine O8 (by first | with_reducible assumption | omega) ?_ | refine S1 (by first | with_reducible assumption | omega) ?_ | refine FF (by first | with_reducible assumption | omega) ?_ | refine IB (by first | with_reducible assumption | omega) ?_ | refine J3 (by first | with_reducible assumption | omega) ?_ | refine EC (by first | with_reducible assumption | omega) ?_ | refine C4 (by first | with_reducible assumption | omega) rfl ?_ | refine CZ (by first | with_reducible assumption | omega) rfl ?_ | refine BV ?_ | refine BU ?_ | refine AY ?_ | refine BF ?_ | refine CM ?_ | refine AW (fun _=> ?_) (fun _=> ?_) | refine J1 (fun _=> ?_) (fun _=> ?_) | refine KM (fun _=> ?_) (fun _=> ?_) | simp only [AI,AO,AM,AS,AH,AE,AG,AK,AN,AP,AR,AT,AQ,AL,BD,BJ,BL,BK,BM,BN,BG,A4,AZ,A6,A8,A5,A7])
  all_goals first
   | exact hK _ _ _ 1 0 [] (oG hk (by omega))
   | skip
  all_goals
   have hn: ¬(AB h.AD x<0∨(z≠ -1∧AB h.AD z<0)):=by omega
   obtain ⟨k,hkk⟩: ∃k:Nat,AB h.AD x=(k:Int):=⟨(AB h.AD x).toNat,by omega⟩
   have k8:=(I3 hkk).1
   have kl:k<(h.AD.map HE).length:=by simp;omega
   have q:=na.nd k k8
   refine CN (CQ (AW (fun hb=>hK _ _ _ 2 0 [] (gX hk hn hb)) fun hb=> ?_))
   obtain ⟨j,rfl⟩: ∃j:Nat,y=(j:Int):=⟨y.toNat,by omega⟩
   rw [sx,hkk]
   refine AJ kl (YO kl ?_)
   rw [TG kl]
   refine AJ (by rw [AE];omega) (nK kl (by omega) ?_)
   have n3:NOk ((h.AD.map HE).set k {nd (h.AD.map HE) k with field:=(nd (h.AD.map HE) k).field.set j z}):=na.set k8 (by simp only [List.length_set];exact q.1) (fun f hf=>(List.mem_or_eq_of_mem_set hf).elim (q.2.1 f) fun he=>he ▸ hc) q.2.2.1 q.2.2.2.1 q.2.2.2.2
   refine SD n3 (fun i hi hv=> ?_) fun a' fr out m1 m2 m3 m4 m5 m6=>hK a' _ _ 0 0 out (pY (y:=(j:Int)) hk hn (Classical.not_not.1 hb) hkk (by rw [Int.toNat_natCast];exact ⟨m1,m2,m3,m4,m5,m6⟩))
   rw [QG kl] at hv ⊢
   by_cases hik:i=k
   ·subst hik;rw [if_pos rfl] at hv ⊢;exact WW hk i hi hv
   ·rw [if_neg hik] at hv ⊢;exact WW hk i hi hv
 ·repeat' (first | refine BP ?_ | refine BV ?_ | refine BU ?_ | refine BF ?_ | simp only [AI,AO,AM,AS,AH,AE,AG,AK,AN,AP,AR,AT,AQ,AL,BD,BJ,BL,BK,BM,BN,BG,A4,AZ,A6,A8,A5,A7])
  have es:CD h ⟨7,x,y,z,s⟩=(⟨h.AD,(HO h.AD h.BW x).1,h.buffer,h.sites⟩,(HO h.AD h.BW x).2):=by
   unfold CD
   simp only [show ¬(7:Int)=1 by decide,show ¬((7:Int)=2∨(7:Int)=3∨(7:Int)=5∨(7:Int)=6) by decide,show ¬(7:Int)=4 by decide,if_false,if_true]
  refine SL na hwl ha hwf (fun _=> ?_) fun hh=>absurd rfl hh
  rw [aS,oP (O5 hk x)]
  exact hK _ _ _ _ _ [] (J8.IT hk (by rw [es]) (by rw [es]) (by rw [es];exact aS))
 ·have es:CD h ⟨kd,x,y,z,s⟩=(⟨h.AD,(CX h.AD h.BW kd x).1,h.buffer,h.sites⟩,(CX h.AD h.BW kd x).2):=by
   unfold CD
   simp only
   rw [if_neg (by omega),if_neg (by omega),if_neg (by omega),if_neg (by omega),if_pos hkd]
  have hh: ∀{K':J2},(K' [I (CX h.AD h.BW kd x).2.code,I (CX h.AD h.BW kd x).2.val] [tR tW (CX h.AD h.BW kd x).1,[]])→cl2 ⟨Try.prog,w0⟩ 136 GY.sg [I kd,I x,I y,I z, .string s] [tR tN (h.AD.map HE),tR tW h.BW,tS h.sites] K':=fun hK'=>by
   refine SL na hwl ha hwf (fun h7=>by omega) fun _=> ?_
   rw [VS,dZ (O5 hk)]
   exact hK'
  have key:=hK _ (tR tW (CX h.AD h.BW kd x).1) (tS h.sites) _ (CX h.AD h.BW kd x).2.val [] (J8.IT hk (by rw [es]) (by rw [es]) (by rw [es];exact VS))
  rcases hkd with rfl | rfl
  all_goals
   repeat' (first | refine BP ?_ | refine BV ?_ | refine BU ?_ | refine BF ?_ | simp only [AI,AO,AM,AS,AH,AE,AG,AK,AN,AP,AR,AT,AQ,AL,BD,BJ,BL,BK,BM,BN,BG,A4,AZ,A6,A8,A5,A7])
   exact hh key
 ·repeat' (first | refine BP ?_ | refine BV ?_ | refine BU ?_ | refine BF ?_ | simp only [AI,AO,AM,AS,AH,AE,AG,AK,AN,AP,AR,AT,AQ,AL,BD,BJ,BL,BK,BM,BN,BG,A4,AZ,A6,A8,A5,A7])
  exact XX na fun a' out n' ha' pm so=>hK a' _ _ 0 0 out (u9 hk g n' ha' pm so)
 ·have es:CD h ⟨kd,x,y,z,s⟩=(h,⟨2,0,[]⟩):=by
   unfold CD
   simp only
   rw [if_neg (by omega),if_neg (by omega),if_neg (by omega),if_neg (by omega),if_neg (by omega),if_neg (by omega)]
  repeat' (first | refine BP ?_ | refine C0 (by first | with_reducible assumption | omega) ?_ | refine BF ?_ | simp only [AI,AO,AM,AS,AH,AE,AG,AK,AN,AP,AR,AT,AQ,AL,BD,BJ,BL,BK,BM,BN,BG,A4,AZ,A6,A8,A5,A7])
  all_goals first | (exfalso;omega) | exact hK _ _ _ 2 0 [] (J8.IT hk (by rw [es]) (by rw [es]) (by rw [es]))
theorem qJ {L:List Int} (g:W3 L) {K:J2} (done:K [.bool true] []):IH.txt ⟨Try.prog,w0⟩ (tY L) K:=by
 unfold IH.txt
 refine hX (AW (fun _=>done) fun hsz=> ?_)
 have hb:=g.f hsz
 refine UW hb fun h o hx ho=> ?_
 refine SY hx.fits hx.KE (fun ok=> ?_) fun _=>B2 (BV done)
 refine B2 (BU ?_)
 have hol:=ok.ol
 have oa:=ho.a
 have oc:=ho.c
 refine cV hx.fits hx.KE oa oc ?_
 rw [Q6 ok]
 refine XK hx.fits (VA ok (hx.gd ok) oa oc fun a' ws' ss' code val out G=> ?_)
 obtain ⟨gc,n',gs,gp,gso⟩:=G
 have al:=n'.len
 have okx:=ok.step (o:=o)
 have sf:=ok.Bb (o:=o)
 have fx:=okx.fits
 have hol2:=okx.ol
 have fl:=sf.len
 generalize hstep:CD h o=st at gc gs gp okx sf fx hol2 fl ⊢
 obtain ⟨x,an⟩:=st
 simp only at okx fx hol2 fl
 refine NX al n'.fl ?_
 have sl:=Z0 (grQ a')
 have qi:=yN al
 have rm: ∀v∈SR (grQ a'), ∃i:Nat,v=(i:Int)∧i<8∧(nd a' i).live=true:=fun v hv=>by
  unfold SR at hv
  obtain ⟨i,hi,h2⟩:=KU.1 hv
  split at h2
  ·rename_i hq
   obtain ⟨k,ek,k8,kv,_⟩:=qi.lv _ hq
   have:i=k:=by omega
   subst this
   rw [GO] at kv
   exact ⟨i,List.mem_singleton.1 h2,hi,kv⟩
  ·cases h2
 generalize SR (grQ a')=r at sl rm ⊢
 simp only [trees,List.cons_append,List.nil_append]
 simp only [AI,AO,AM,AS,AH,AE,AG,AK,AN,AP,AR,AT,AQ,AL,BD,BJ,BL,BK,BM,BN,BG,A4,AZ,A6,A8,A5,A7]
 refine BH (fun i=>[iv i,I an.code,I an.val,I code,I val]) (fun _=>[tI r,tR tO x.AD,tR tW x.BW,tI x.buffer,tS x.sites,tI an.freed,tR tN a',ws',ss',tI out]) r.length (fun _=>True) rfl rfl trivial (fun R i hi _ hR=> ?_)
 simp only [AI,AO,AM,AS,AH,AE,AG,AK,AN,AP,AR,AT,AQ,AL,BD,BJ,BL,BK,BM,BN,BG,A4,AZ,A6,A8,A5,A7]
 simp only [zY,yY,z7,yA,AH]
 refine AY (AW (fun hlt=> ?_) fun hge=> ?_)
 ·have hlt:i<r.length:=by omega
  have hR:=hR hlt trivial
  obtain ⟨k,ek,k8,kv⟩:=rm _ (DS hlt)
  have kl:k<a'.length:=by omega
  obtain ⟨sv,sg⟩:=gs k k8
  simp only at sv sg
  have xv:(ob x.AD k).live=true:=by rw [←sv];exact kv
  refine AJ hlt (ldI hlt (AJ hlt (ldI hlt ?_)))
  rw [ek]
  refine AJ kl (KI (c:=1) kl (by decide) rfl (FD ?_))
  have es:AB x.AD (B9 (k:Int) (nd a' k).gen)=(k:Int):=by rw [sg];exact wB okx k8 xv
  have fid:F64 (B9 (k:Int) (nd a' k).gen):=DE (by have:=okx.YE (x:=B9 (k:Int) (nd a' k).gen) (by omega);omega)
  simp only [BD]
  refine CW fid (by omega) ?_
  rw [es]
  have p1: ¬(k:Int)<0:=by omega
  have nf:B9 (k:Int) (nd a' k).gen∉an.freed:=fun hm=>by
   have:=(sf.fr _ hm).2
   simp only at this
   omega
  exact AY (BC (BC (BC (EC p1 (iK (by omega) (CZ p1 rfl (C0 nf (BA (by omega) hR))))))))
 ·have ec:an.code=code:=gc.symm
  have e8:(x.AD.length:Int)=8:=by omega
  refine BF (BC (BC (BC (FF ec (BF (C4 ec rfl (BC (BC (Ba e8 (ZM (by omega) fun out2 p2 s2=> ?_))))))))))
  have e:out2=out:=oO (p2.trans gp.symm) s2 gso
  rw [e]
  have ol:=p2.length_eq
  rw [e] at ol
  exact BC (BC (FF e8 (V1 (by omega) (C4 e8 rfl done))))
end Go.Proofs.Ytklmcfpgdfibnaa.P
