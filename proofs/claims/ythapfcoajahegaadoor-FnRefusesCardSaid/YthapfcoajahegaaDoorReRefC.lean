/- A part of the proof. -/
import Derived.Test.YthapfcoajahegaaDoorReRefB
import Derived.Test.YthapfcoajahegaaDoorReBfsA
namespace Go.Proofs.YthapfcoajahegaaDoor.P
open Go Go.Proofs.YthapfcoajahegaaDoor Go.Proofs.YthapfcoajahegaaDoor.Eng
set_option linter.unusedVariables false
theorem jO {a b:Nat} {K:Value→Prop} (h1:(a:Int)+(b:Int)<2^63) (h:K (iv (a+b))):prP (bnI .add (iv a) (iv b)) K:=by
 refine CC (a:=(a:Int)) (b:=(b:Int)) ⟨by omega,by omega⟩ ?_
 rw [show (a:Int)+(b:Int)=((a+b:Nat):Int) by omega];exact h
theorem ZN {base:List Op5} {j:Nat} {o:Op5}:tR tP (base++List.replicate (j+1) o)=tR tP (base++List.replicate j o)++tP o:=by rw [List.replicate_succ', ←List.append_assoc,TP]
theorem gY {base:List Int} {j:Nat} {v:Int}:tI (base++List.replicate (j+1) v)=tI (base++List.replicate j v)++[T.c (I v)]:=by rw [List.replicate_succ', ←List.append_assoc,KJ]
theorem rW: ∀i,i<16→0≤gI GU i∧gI GU i≤6:=by decide
set_option maxHeartbeats 4000000
set_option linter.unusedVariables false
set_option linter.unusedSimpArgs false
attribute [local irreducible] prP gP gE gF AY ixW ldc ldg ldl stc stg scW mkW apW A6 cl2 BL C5 BX
variable {w0:World}
attribute [local irreducible] CG
theorem ZH {L:List Int} (g:VT L) {K:J2} (hw: ∀(c:Int) {K:J2},0≤c→c≤6→(∀s:ByteArray,s≠⟨#[]⟩→K [.string s] [])→cl2 ⟨Tryd.prog,w0⟩ 7 K8.sg [I c] [] K) (done:K [.bool true] []):GH.txt ⟨Tryd.prog,w0⟩ (tY L) K:=by
 unfold GH.txt
 refine bN (A8 (fun _=>done) fun hsz=> ?_)
 have hb:=g.f hsz
 refine DZ (fun j=>[iv j]) (fun j=>[tR tP ([⟨1,0,0,0,⟨#[97]⟩⟩]++List.replicate j oR)]) 20 (fun _=>True) rfl rfl trivial (fun R j hj _ hR=> ?_)
 simp only [AM,AS,AW,AU,AO,AI,AJ,AQ,AK,AP,AN,AR,AL,AV,CF,CQ,CO,CT,CL,CN,CP,BD,BE,BG,BH,BJ,BF]
 refine A4 (A8 (fun hlt=> ?_) fun hge=> ?_)
 ·have hR:=hR (by omega) trivial
  refine D5 rfl (by simp;omega) (AZ (by omega) ?_)
  rw [List.replicate_succ', ←List.append_assoc, ←TP] at hR
  exact hR
 have:j=20:=by omega
 subst this
 clear hR R
 refine P9 (k:=0) hb (by omega) (by omega) fun x0 a0 a1=>C2 a0 (by omega) (P9 (k:=1) hb (by omega) (by omega) fun y y0 y1=>CC ⟨by omega,by omega⟩ (P9 (k:=2) hb (by omega) (by omega) fun x2 c0 c1=>C2 c0 (by omega) (P9 (k:=3) hb (by omega) (by omega) fun z z0 z1=>CC ⟨by omega,by omega⟩ ?_)))
 try simp only [CF]
 have hx:0≤x0 % 3∧x0 % 3≤2:=by omega
 have hk:0≤x2 % 8∧x2 % 8≤7:=by omega
 generalize x0 % 3=b at hx ⊢
 generalize x2 % 8=k at hk ⊢
 have e0: ∀l:List Op5,tR tP l++[T.c (I 5),T.c (I 8),T.c (I 0),T.c (I 0),T.c (.string ⟨#[]⟩),T.c (I 4),T.c (I 8),T.c (I 3),T.c (I (-1)),T.c (.string ⟨#[]⟩),T.c (I 4),T.c (I 8),T.c (I b),T.c (I (9+y)),T.c (.string ⟨#[]⟩),T.c (I 3),T.c (I 8),T.c (I 0),T.c (I 0),T.c (.string ⟨#[]⟩),T.c (I 3),T.c (I 8),T.c (I 0),T.c (I 0),T.c (.string ⟨#[]⟩),T.c (I 8),T.c (I k),T.c (I 0),T.c (I 0),T.c (.string ⟨#[]⟩),T.c (I (11+z)),T.c (I 0),T.c (I 0),T.c (I 0),T.c (.string ⟨#[]⟩),T.c (I 1),T.c (I 0),T.c (I 0),T.c (I 0),T.c (.string ⟨#[]⟩)]=tR tP (l++oX b y k z):=fun l=>by simp [tR,oX,oR,tP]
 have e1:=e0 ([⟨1,0,0,0,⟨#[97]⟩⟩]++List.replicate 20 oR)
 refine D5 rfl (by simp [cnt]) ?_
 rw [e1]
 refine DZ (fun j=>[iv 21,iv (1+j)]) (fun j=>[tR tP (([⟨1,0,0,0,⟨#[97]⟩⟩]++List.replicate 20 oR++oX b y k z)++List.replicate j oB),tI ([4,2,1,0,5,2,2,2]++List.replicate j 0)]) 7 (fun _=>True) ?_ rfl trivial (fun R j hj _ hR=> ?_)
 ·simp;rfl
 simp only [AM,AS,AW,AU,AO,AI,AJ,AQ,AK,AP,AN,AR,AL,AV,CF,CQ,CO,CT,CL,CN,CP,BD,BE,BG,BH,BJ,BF]
 refine A4 (a:=((1+j:Nat):Int)) (A8 (fun hlt=> ?_) fun hge=> ?_)
 ·have hR:=hR (by omega) trivial
  refine D5 rfl (by simp [oX];omega) (D5 rfl (by simp [cnt];omega) (AZ (by omega) ?_))
  rw [ZN,gY] at hR
  exact hR
 have:j=7:=by omega
 subst this
 clear hR R
 have e2:tR tP (([⟨1,0,0,0,⟨#[97]⟩⟩]++List.replicate 20 oR++oX b y k z)++List.replicate 7 oB)++[T.c (I 1),T.c (I 0),T.c (I 0),T.c (I 0),T.c (.string ⟨#[98]⟩)]=tR tP (CH b y k z):=by
  unfold CH
  rw [ZN (j:=7)];rfl
 have e3:tI ([4,2,1,0,5,2,2,2]++List.replicate 7 0)++[T.c (I 3)]=tI GU:=KJ _ 3
 refine D5 rfl (by simp [oX]) (D5 rfl (by simp [cnt]) ?_)
 rw [e2,e3]
 have ho: ∀o∈CH b y k z,OpF o:=fun o ho=>by
  have hm:o∈CH b y k z:=ho
  unfold CH oX oR oB at hm
  simp only [List.mem_append,List.mem_replicate,List.mem_cons,List.not_mem_nil,or_false,List.mem_singleton] at hm
  have z0:((ByteArray.mk #[]).size:Int)<2^63:=by decide
  rcases hm with ((rfl | ⟨_,rfl⟩) | (rfl | rfl | rfl | rfl | rfl | rfl | rfl | rfl)) | ⟨_,rfl⟩
  all_goals exact ⟨D8 (by simp only;omega),D8 (by simp only;omega),D8 (by simp only;omega),D8 (by simp only;omega),by first | exact z0 | decide⟩
 have hcd:=kT (b:=b) (y:=y) (k:=k) (z:=z) ⟨y0,y1⟩ ⟨hk.1,hk.2⟩ z0
 refine aH (by rw [kE];decide) ho ?_
 rw [kE,show min 37 400=37 from rfl]
 have pl:=(PQ (CH b y k z) 37).2
 generalize (CG (CH b y k z) 37).2=an_ at pl hcd ⊢
 generalize (CG (CH b y k z) 37).1=x
 have cl:GU.length=16:=rfl
 simp only [trees,List.cons_append,List.nil_append]
 simp only [AM,AS,AW,AU,AO,AI,AJ,AQ,AK,AP,AN,AR,AL,AV,CF,CQ,CO,CT,CL,CN,CP,BD,BE,BG,BH,BJ,BF]
 rw [cl]
 refine jO (by decide) (CB (CW (by omega) ?_))
 refine DZ (fun i=>[iv 21,iv i]) (fun _=>[tI GU,tR tA an_]) 16 (fun _=>True) rfl rfl trivial (fun R i hi _ hR=> ?_)
 simp only [AM,AS,AW,AU,AO,AI,AJ,AQ,AK,AP,AN,AR,AL,AV,CF,CQ,CO,CT,CL,CN,CP,BD,BE,BG,BH,BJ,BF]
 try rw [cl]
 refine A4 (A8 (fun hlt=> ?_) fun hge=>done)
 have hlt:i<16:=by omega
 have hR:=hR hlt trivial
 have hi2:21+i<an_.length:=by omega
 have hi3:i<GU.length:=by omega
 have hc:=hcd i hlt
 have hcb:=rW i hlt
 have p1: ¬(an an_ (21+i)).code≠gI GU i:=fun hh=>hh hc
 refine jO (by omega) (A5 hi2 (DD hi2 (v:=I (an an_ (21+i)).code) rfl (A5 hi3 (ldI hi3 (CB (IQ (IQ (GV p1 (A5 hi3 (GV p1 (ldI hi3 ?_)))))))))))
 exact GV p1 (hw _ hcb.1 hcb.2 fun s hs=>GV p1 (B7 (JJ p1 rfl (CW hs (AZ (by omega) hR)))))
end Go.Proofs.YthapfcoajahegaaDoor.P
