/- A part of the proof. -/
import Derived.Test.YtklmcfpgdfibnaaTrHpFb
namespace Go.Proofs.Ytklmcfpgdfibnaa.P
open Go Go.Proofs.Ytklmcfpgdfibnaa Go.Proofs.Ytklmcfpgdfibnaa.Eng
set_option linter.unusedVariables false
set_option maxHeartbeats 4000000
set_option linter.unusedVariables false
set_option linter.unusedSimpArgs false
attribute [local irreducible] prP gP gE gF AX ixW ldc ldg ldl stc stg scW mkW apW BF cl2 BS DK CW
variable {w0:World}
def tY (l:List Int):List T:=l.map fun n=> .c (.int .u8 n)
structure PW (l:List Int):Prop where
 len:(l.length:Int)<2^62
 all: ∀x∈l,0≤x∧x≤255
theorem dF (l:List Int):cnt 1 (tY l)=l.length:=by simp [cnt,tY]
theorem ldY {l:List Int} {i:Nat} {K:Value→Prop} (hi:i<l.length) (h:K (.int .u8 (gI l i))):ldc (tY l) [] (AB (iv i)*1) K:=by
 rw [←DA hi] at h
 exact jD (by rw [AZ];simp [tY,hi]) h
theorem PW.at {l:List Int} (h:PW l) {i:Nat} (hi:i<l.length):0≤gI l i∧gI l i≤255:=by rw [←DA hi];exact h.all _ (List.getElem_mem hi)
theorem bB {a b:Int} {K:Value→Prop} (h: ∀x,F64 x→K (I x)):prP (bnI .mul (I a) (I b)) K:=CP (v:=I (w64 (a*b))) rfl (h _ (fZ _))
theorem U0 {a:Int} {m:Nat} {K:Value→Prop} (hm:m<2^62) (h: ∀x:Int,0≤x→x≤m→K (I x)):prP (bnI .and (I a) (I m)) K:=by
 refine CP (v:= .int .i64 (IntKind.i64.wrap (BitVec.ofInt 64 a&&& BitVec.ofInt 64 m).toNat)) rfl ?_
 have e:(BitVec.ofInt 64 a&&& BitVec.ofInt 64 (m:Int)).toNat≤m:=by
  rw [BitVec.toNat_and,BitVec.ofInt_natCast,BitVec.toNat_ofNat,Nat.mod_eq_of_lt (by omega)]
  exact Nat.and_le_right
 rw [M6 ⟨by omega,by omega⟩]
 exact h _ (by omega) (by omega)
theorem jX {a b:Int} {K:Value→Prop} (h: ∀x:Int,K (I x)):prP (bnI .xor (I a) (I b)) K:=
 CP (v:= .int .i64 (IntKind.i64.wrap (BitVec.ofInt 64 a^^^BitVec.ofInt 64 b).toNat)) rfl (h _)
theorem bJ {a:Int} {n:Nat} {K:Value→Prop} (h: ∀x:Int,K (I x)):prP (bnI .shr (I a) (.int .u64 n)) K:=by
 have e:bnI .shr (I a) (.int .u64 (n:Int))=some (.int .i64 ((a:Int).fdiv (2^min (n:Int).toNat 64))):=by
  show (if (n:Int)<0 then none else _)=_
  rw [if_neg (by omega)];rfl
 rw [e];exact CP rfl (h _)
theorem X4 {L:List Int} {K:J2} (hb:PW L) (h: ∀z,K [iv 0,I z] []):cl2 ⟨Try.prog,w0⟩ 85 GG.sg [] [tY L] K:=by
 have hL:=hb.len
 refine GG.cl2 ?_
 unfold GG.txt
 rw [dF]
 refine FY ⟨by omega,by omega⟩ ?_
 refine ER (α:=Int×Nat) (fun q=>[I q.1,iv q.2]) (fun _=>[]) (fun q=>L.length-q.2) (fun q=>q.2≤L.length) (10101+(L.length:Int),0) rfl rfl (Nat.zero_le _) (fun R q hq hR=> ?_)
 obtain ⟨a,i⟩:=q
 simp only at hq hR
 simp only [AJ,AT,AL,AR,AS,AE,AI,AU,AK,AN,AO,AQ,AM,AP,BJ,BO,BL,BM,BN,BP,BK,A9,A4,A6,A7,A8,A5]
 refine BA (BX (LD (fun hlt=> ?_) fun hge=>FM hge rfl (CB (h a))))
 refine BA (FG hlt rfl (AW (fun h4=> ?_) fun _=>h a))
 have hlt:i<L.length:=by omega
 have hx:=hb.at hlt
 refine bB fun x _=>AH hlt (ldY hlt (aY ⟨by omega,by omega⟩ (G3 (G3 (U0 (m:=1073741823) (by omega) fun y _ _=>BB (by omega) ?_)))))
 exact hR (y,i+1) (by simp only;omega) (by simp only;omega)
theorem HV {L:List Int} {i:Nat} {z:Int} {K:J2} (hb:PW L) (hi:i≤L.length) (h: ∀x i' z',0≤x→x≤255→i'≤L.length→K [I x,iv i',I z'] []):cl2 ⟨Try.prog,w0⟩ 151 DI.sg [iv i,I z] [tY L] K:=by
 have hL:=hb.len
 refine DI.cl2 ?_
 unfold DI.txt
 rw [dF]
 refine bB fun a _=>G3 (bJ (n:=33) fun b=>bJ (n:=45) fun c=>jX fun d=>U0 (m:=255) (by omega) fun x h0 h1=>BT ?_)
 refine BA (AW (fun hlt=> ?_) fun hge=> ?_)
 ·have hlt:i<L.length:=by omega
  have hx:=hb.at hlt
  refine AH hlt (ldY hlt (aY ⟨by omega,by omega⟩ (FY ⟨by omega,by omega⟩ (U0 (m:=255) (by omega) fun y y0 y1=>BB (by omega) ?_))))
  exact h y (i+1) _ y0 y1 (by omega)
 ·exact h x i _ h0 h1 hi
theorem CO {L:List Int} {i:Nat} {z n:Int} {K:J2} (hb:PW L) (hi:i≤L.length) (h: ∀x i' z',0≤x→(x<n∨(n≤0∧x=0))→i'≤L.length→K [I x,iv i',I z'] []):cl2 ⟨Try.prog,w0⟩ 112 BQ.sg [iv i,I z,I n] [tY L] K:=by
 refine BQ.cl2 ?_
 unfold BQ.txt
 refine JJ (AW (fun h0=>h 0 i z (by omega) (.inr ⟨h0,rfl⟩) hi) fun h0=>JJ (AW (fun h1=> ?_) fun h1=> ?_))
 ·refine HV hb hi fun x i' z' x0 x1 hi'=>TP x0 (by omega) ?_
  exact h _ i' z' (Int.emod_nonneg _ (by omega)) (.inl (Int.emod_lt_of_pos _ (by omega))) hi'
 ·refine HV hb hi fun x i1 z1 x0 x1 h1=>HV hb h1 fun y i2 z2 y0 y1 h2=>HV hb h2 fun u i3 z3 u0 u1 h3=>HV hb h3 fun v i4 z4 v0 v1 h4=> ?_
  simp only [AJ,AT,AL,AR,AS,AE,AI,AU,AK,AN,AO,AQ,AM,AP,BJ,BO,BL,BM,BN,BP,BK,A9,A4,A6,A7,A8,A5]
  refine TI ⟨by omega,by omega⟩ (TI ⟨by omega,by omega⟩ (FY ⟨by omega,by omega⟩ (TI ⟨by omega,by omega⟩ (FY ⟨by omega,by omega⟩ (FY ⟨by omega,by omega⟩ (TP (by omega) (by omega) ?_))))))
  exact h _ i4 z4 (Int.emod_nonneg _ (by omega)) (.inl (Int.emod_lt_of_pos _ (by omega))) h4
theorem JL {L:List Int} {i:Nat} {z n:Int} {K:J2} (hb:PW L) (hi:i≤L.length) (h: ∀(b:Bool) i' z',i'≤L.length→K [.bool b,iv i',I z'] []):cl2 ⟨Try.prog,w0⟩ 95 C6.sg [iv i,I z,I n] [tY L] K:=
 C6.cl2 (CO hb hi fun x i' z' _ _ hi'=>BW (h _ i' z' hi'))
theorem FH {L l:List Int} {i:Nat} {z:Int} {K:J2} (hb:PW L) (hi:i≤L.length) (hl:0<l.length) (h: ∀v∈l, ∀i' z',i'≤L.length→K [I v,iv i',I z'] []):cl2 ⟨Try.prog,w0⟩ 140 BY.sg [iv i,I z] [tY L,tI l] K:=by
 refine BY.cl2 ?_
 unfold BY.txt
 rw [AE]
 refine CO hb hi fun x i' z' x0 x1 hi'=> ?_
 simp only [AJ,AT,AL,AR,AS,AE,AI,AU,AK,AN,AO,AQ,AM,AP,BJ,BO,BL,BM,BN,BP,BK,A9,A4,A6,A7,A8,A5]
 have hx:x.toNat<l.length:=by omega
 refine SF x0 (by omega) (ldI hx ?_)
 exact h _ (DU hx) i' z' hi'
theorem m3 {l:List ByteArray} {i:Nat} (h:i<l.length):gS l i∈l:=by rw [←RF h];exact List.getElem_mem h
theorem LS {L:List Int} {l:List ByteArray} {i:Nat} {z:Int} {K:J2} (hb:PW L) (hi:i≤L.length) (hl:0<l.length) (h: ∀v∈l, ∀i' z',i'≤L.length→K [.string v,iv i',I z'] []):cl2 ⟨Try.prog,w0⟩ 139 DH.sg [iv i,I z] [tY L,tS l] K:=by
 refine DH.cl2 ?_
 unfold DH.txt
 rw [AI]
 refine CO hb hi fun x i' z' x0 x1 hi'=> ?_
 simp only [AJ,AT,AL,AR,AS,AE,AI,AU,AK,AN,AO,AQ,AM,AP,BJ,BO,BL,BM,BN,BP,BK,A9,A4,A6,A7,A8,A5]
 have hx:x.toNat<l.length:=by omega
 refine SF x0 (by omega) (ldS hx ?_)
 exact h _ (m3 hx) i' z' hi'
def JU (l:List AG) (i:Nat):List Int:=if (i:Int)<8∧(ob l i).live=true then [CC i (ob l i).gen] else []
def JW (l:List AG):List Int:=pick (JU l) l.length
theorem WM (l:List AG) (i:Nat):(JU l i).length≤1:=by unfold JU;split <;> simp
theorem VU {α:Type} {f:Nat→List α} {P:α→Prop} (h: ∀i, ∀x∈f i,P x): ∀n, ∀x∈pick f n,P x
 | 0,x,hx=>by simp [pick] at hx
 | n+1,x,hx=>by
   rw [pick] at hx
   rcases List.mem_append.1 hx with hx | hx
   ·exact VU h n x hx
   ·exact h n x hx
theorem lP (l:List AG): ∀x∈JW l, -1≤x∧x≤7999:=VU (fun i x hx=>by
 unfold JU at hx;split at hx
 ·rw [List.mem_singleton.1 hx];exact X9 _ _
 ·cases hx) _
theorem XP (l:List AG):(JW l).length≤l.length:=HY (WM l) _
theorem K3 {a:List AG} {b c d:List T} {K:J2} (hl:(a.length:Int)≤1048576) (h:K [] [tI (JW a)]):cl2 ⟨Try.prog,w0⟩ 30 C4.sg [] [tR tO a,b,c,d] K:=by
 refine C4.cl2 ?_
 unfold C4.txt
 refine BG (fun i=>[iv i]) (fun i=>[tI (pick (JU a) i)]) a.length (fun i=>i≤8) rfl rfl (by omega) (fun R i hi hP hR=> ?_)
 have hpl:=HY (WM a) i
 have hstop:a.length≤i∨8≤i→K [] [tI (pick (JU a) i)]:=by
  intro hs
  have:pick (JU a) a.length=pick (JU a) i:=by
   rcases hs with hs | hs
   ·have:i=a.length:=by omega
    rw [this]
   ·exact OQ (fun k hk=>by unfold JU;rw [if_neg];omega) _ hi
  rw [JW,this] at h;exact h
 simp only [AJ,AT,AL,AR,AS,AE,AI,AU,AK,AN,AO,AQ,AM,AP,BJ,BO,BL,BM,BN,BP,BK,A9,A4,A6,A7,A8,A5]
 refine BA (BX (LD (fun hlt=> ?_) fun hge=> ?_))
 rotate_left
 ·exact FM hge rfl (CB (hstop (by omega)))
 refine BA (FG hlt rfl (AW (fun h4=>BT ?_) fun h4=>hstop (by omega)))
 have hlt:i<a.length:=by omega
 have hR:=hR hlt (by omega)
 refine AH hlt (HZ hlt rfl ?_)
 cases hv:(ob a i).live with
 | true=>
   have e:JU a i=[CC i (ob a i).gen]:=by unfold JU;rw [if_pos ⟨by omega,hv⟩]
   refine CQ (AH hlt (HO hlt (by decide) rfl (FE (EH rfl (by first | omega | (simp only [AJ,AT,AL,AR,AS,AE,AI,AU,AK,AN,AO,AQ,AM,AP,BJ,BO,BL,BM,BN,BP,BK,A9,A4,A6,A7,A8,A5];omega)) ?_))))
   simp only [AJ,AT,AL,AR,AS,AE,AI,AU,AK,AN,AO,AQ,AM,AP,BJ,BO,BL,BM,BN,BP,BK,A9,A4,A6,A7,A8,A5]
   rw [DJ,aB e]
   exact BB (by omega) hR
 | false=>
   have e:JU a i=[]:=by unfold JU;rw [if_neg];rintro ⟨_,h⟩;rw [hv] at h;cases h
   refine CB ?_
   simp only [AJ,AT,AL,AR,AS,AE,AI,AU,AK,AN,AO,AQ,AM,AP,BJ,BO,BL,BM,BN,BP,BK,A9,A4,A6,A7,A8,A5]
   rw [←W6 e] at hR
   exact BB (by omega) hR
theorem NR {L:List Int} {i:Nat} {z:Int} {a:List AG} {b c d:List T} {K:J2} (hb:PW L) (hi:i≤L.length) (hl:(a.length:Int)≤1048576) (h: ∀v i' z', -1≤v→v≤7999→i'≤L.length→K [I v,iv i',I z'] []):cl2 ⟨Try.prog,w0⟩ 113 GA.sg [iv i,I z] [tY L,tR tO a,b,c,d] K:=by
 have hbd:=lP a
 refine GA.cl2 ?_
 unfold GA.txt
 refine K3 hl ?_
 simp only [AJ,AT,AL,AR,AS,AE,AI,AU,AK,AN,AO,AQ,AM,AP,BJ,BO,BL,BM,BN,BP,BK,A9,A4,A6,A7,A8,A5]
 have pk6: ∀{i:Nat} {z:Int},i≤L.length→cl2 ⟨Try.prog,w0⟩ 140 BY.sg [iv i,I z] [tY L,[T.c (.int .i64 (-1)),T.c (.int .i64 0),T.c (.int .i64 8),T.c (.int .i64 9),T.c (.int .i64 17),T.c (.int .i64 4000)]] fun v7 d8=>K [nx v7 0,nx v7 1,nx v7 2] []:=fun hi=>by
  refine FH (l:=[-1,0,8,9,17,4000]) hb hi (by simp) fun v hv i' z' hi'=> ?_
  have: -1≤v∧v≤7999:=by simp at hv;omega
  exact h v i' z' this.1 this.2 hi'
 refine BW (BX (uA (fun hne=> ?_) fun he=> ?_))
 ·refine JL hb hi fun b i' z' hi'=>FM hne rfl (U7 (fun _=>pk6 hi') fun _=> ?_)
  refine CO hb hi' fun x i2 z2 x0 x1 hi2=> ?_
  simp only [AJ,AT,AL,AR,AS,AE,AI,AU,AK,AN,AO,AQ,AM,AP,BJ,BO,BL,BM,BN,BP,BK,A9,A4,A6,A7,A8,A5]
  have hx:x.toNat<(JW a).length:=by omega
  have:=hbd _ (DU hx)
  exact SF x0 (by omega) (ldI hx (h _ i2 z2 this.1 this.2 hi2))
 ·exact FG he rfl (CQ (pk6 hi))
structure OpD (o:Op5):Prop where
 k:0≤o.kind∧o.kind≤11
 a: -1≤o.a∧o.a≤7999
 b: -1≤o.b∧o.b≤3
 c: -1≤o.c∧o.c≤7999
 s:o.site.size≤12
theorem OpD.f {o:Op5} (h:OpD o):OpF o:=⟨by have:=h.k;exact ⟨by omega,by omega⟩,by have:=h.a;exact ⟨by omega,by omega⟩,by have:=h.b;exact ⟨by omega,by omega⟩,by have:=h.c;exact ⟨by omega,by omega⟩,by have:=h.s;omega⟩
theorem aI {L:List Int} {i:Nat} {z:Int} {a:List AG} {b c d:List T} {K:J2} (hb:PW L) (hi:i≤L.length) (hl:(a.length:Int)≤1048576) (h: ∀(o:Op5) i' z',OpD o→i'≤L.length→K [I o.kind,I o.a,I o.b,I o.c, .string o.site,iv i',I z'] []):cl2 ⟨Try.prog,w0⟩ 128 HD.sg [iv i,I z] [tY L,tR tO a,b,c,d] K:=by
 refine HD.cl2 ?_
 unfold HD.txt
 refine FH (l:=[1,1,1,2,3,3,3,4,4,4,4,5,6,7,8,9,10,4]) hb hi (by simp) fun kd hkd i1 z1 h1=> ?_
 have hkd:0≤kd∧kd≤11:=by simp at hkd;omega
 have nil:(⟨#[]⟩:ByteArray).size≤12:=Nat.zero_le _
 have hK: ∀(o:Op5) i' z' (y1 y2 y3 y4 y5:Value),OpD o→i'≤L.length→cl2 ⟨Try.prog,w0⟩ 112 BQ.sg [iv i',I z',I 50] [tY L] fun v34 d35=>
   prP (bnI .eql (nx v34 0) (.int .i64 0)) fun t49_36=>
   AX t49_36 (cl2 ⟨Try.prog,w0⟩ 140 BY.sg [nx v34 1,nx v34 2] [tY L,[T.c (.int .i64 0),T.c (.int .i64 11)]] fun v37 d38=>K [nx v37 0,I o.a,I o.b,I o.c, .string o.site,nx v37 1,nx v37 2] []) (
   prP (bnI .eql (nx v34 0) (.int .i64 1)) fun t55_39=>
   AX t55_39 (cl2 ⟨Try.prog,w0⟩ 140 BY.sg [nx v34 1,nx v34 2] [tY L,[T.c (.int .i64 (-1)),T.c (.int .i64 3)]] fun v40 d41=>K [I o.kind,I o.a,nx v40 0,I o.c, .string o.site,nx v40 1,nx v40 2] []) (
   prP (bnI .eql (nx v34 0) (.int .i64 2)) fun t61_42=>
   AX t61_42 (cl2 ⟨Try.prog,w0⟩ 139 DH.sg [nx v34 1,nx v34 2] [tY L,[T.c (.string {data:= #[]}),T.c (.string {data:= #[116,111,111,108,111,110,103,97,115,105,116,101]}),T.c (.string {data:= #[115,49]}),T.c (.string {data:= #[115,50]}),T.c (.string {data:= #[115,51]}),T.c (.string {data:= #[115,52]}),T.c (.string {data:= #[115,53]})]] fun v43 d44=>K [I o.kind,I o.a,I o.b,I o.c,nx v43 0,nx v43 1,nx v43 2] [])
    (K [I o.kind,I o.a,I o.b,I o.c, .string o.site,nx v34 1,nx v34 2] []))):=by
  intro o i' z' _ _ _ _ _ ho hi'
  refine CO hb hi' fun x i2 z2 x0 x1 h2=> ?_
  refine BW (AW (fun _=> ?_) fun _=>BW (AW (fun _=> ?_) fun _=>BW (AW (fun _=> ?_) fun _=>h o i2 z2 ho h2)))
  ·refine FH (l:=[0,11]) hb h2 (by simp) fun v hv i3 z3 h3=> ?_
   exact h ⟨v,o.a,o.b,o.c,o.site⟩ i3 z3 ⟨by simp at hv;simp only;omega,ho.a,ho.b,ho.c,ho.s⟩ h3
  ·refine FH (l:=[-1,3]) hb h2 (by simp) fun v hv i3 z3 h3=> ?_
   exact h ⟨o.kind,o.a,v,o.c,o.site⟩ i3 z3 ⟨ho.k,ho.a,by simp at hv;simp only;omega,ho.c,ho.s⟩ h3
  ·refine LS (l:=[⟨#[]⟩,⟨#[116,111,111,108,111,110,103,97,115,105,116,101]⟩,⟨#[115,49]⟩,⟨#[115,50]⟩,⟨#[115,51]⟩,⟨#[115,52]⟩,⟨#[115,53]⟩]) hb h2 (by simp) fun v hv i3 z3 h3=> ?_
   refine h ⟨o.kind,o.a,o.b,o.c,v⟩ i3 z3 ⟨ho.k,ho.a,ho.b,ho.c, ?_⟩ h3
   simp only [List.mem_cons,List.not_mem_nil,or_false] at hv
   rcases hv with rfl | rfl | rfl | rfl | rfl | rfl | rfl <;> (simp only;decide)
 refine BT ?_
 refine BW (AW (fun _=> ?_) fun _=>BW (AW (fun _=> ?_) fun _=>BT ?_))
 ·refine LS (l:=[⟨#[97]⟩,⟨#[98]⟩,⟨#[108,105,115,116]⟩,⟨#[110,111,100,101]⟩]) hb h1 (by simp) fun v hv i3 z3 h3=>BT ?_
  refine hK ⟨kd,0,0,0,v⟩ i3 z3 (I 0) (I 0) (I 0) (I 0) (I 0) ⟨hkd,by simp only;omega,by simp only;omega,by simp only;omega, ?_⟩ h3
  simp only [List.mem_cons,List.not_mem_nil,or_false] at hv
  rcases hv with rfl | rfl | rfl | rfl <;> (simp only;decide)
 ·refine NR hb h1 hl fun x i2 z2 x0 x1 h2=>CO hb h2 fun y i3 z3 y0 y1 h3=>NR hb h3 hl fun u i4 z4 u0 u1 h4=>JL hb h4 fun b i5 z5 h5=>U7 (fun _=>BT ?_) fun _=>BT ?_
  ·exact hK ⟨kd,x,y, -1,⟨#[]⟩⟩ i5 z5 (I 0) (I 0) (I 0) (I 0) (I 0) ⟨hkd,⟨x0,x1⟩,by simp only;omega,by simp only;omega,nil⟩ h5
  ·exact hK ⟨kd,x,y,u,⟨#[]⟩⟩ i5 z5 (I 0) (I 0) (I 0) (I 0) (I 0) ⟨hkd,⟨x0,x1⟩,by simp only;omega,⟨u0,u1⟩,nil⟩ h5
 ·refine BW (AW (fun e8=> ?_) fun n8=>BW ?_)
  ·refine EP e8 (CO hb h1 fun x i2 z2 x0 x1 h2=>BT ?_)
   exact hK ⟨kd,x,0,0,⟨#[]⟩⟩ i2 z2 (I 0) (I 0) (I 0) (I 0) (I 0) ⟨hkd,by simp only;omega,by simp only;omega,by simp only;omega,nil⟩ h2
  ·by_cases e9:kd=9
   ·refine EP e9 (CO hb h1 fun x i2 z2 x0 x1 h2=>BT ?_)
    exact hK ⟨kd,x,0,0,⟨#[]⟩⟩ i2 z2 (I 0) (I 0) (I 0) (I 0) (I 0) ⟨hkd,by simp only;omega,by simp only;omega,by simp only;omega,nil⟩ h2
   ·refine D8 e9 (BW (AW (fun _=>BT ?_) fun _=>NR hb h1 hl fun x i2 z2 x0 x1 h2=>BT ?_))
    ·exact hK ⟨kd,0,0,0,⟨#[]⟩⟩ i1 z1 (I 0) (I 0) (I 0) (I 0) (I 0) ⟨hkd,by simp only;omega,by simp only;omega,by simp only;omega,nil⟩ h1
    ·exact hK ⟨kd,x,0,0,⟨#[]⟩⟩ i2 z2 (I 0) (I 0) (I 0) (I 0) (I 0) ⟨hkd,⟨x0,x1⟩,by simp only;omega,by simp only;omega,nil⟩ h2
theorem YD {L:List Int} {i m:Nat} {z:Int} {K:J2} (hb:PW L) (hi:i≤L.length) (hm:m≤1000) (h: ∀(l:List Op5) i' z',l.length≤m→(∀o∈l,OpD o)→i'≤L.length→K [iv i',I z'] [tR tP l]):cl2 ⟨Try.prog,w0⟩ 108 GM.sg [iv i,I z,I m] [tY L] K:=by
 refine GM.cl2 ?_
 unfold GM.txt
 refine OM (FY ⟨by omega,by omega⟩ (CO hb hi fun x i1 z1 x0 x1 h1=> ?_))
 obtain ⟨n,rfl⟩: ∃n:Nat,x=n:=⟨x.toNat,by omega⟩
 simp only [AJ,AT,AL,AR,AS,AE,AI,AU,AK,AN,AO,AQ,AM,AP,BJ,BO,BL,BM,BN,BP,BK,A9,A4,A6,A7,A8,A5]
 refine ER (α:=Nat×Nat×Int×List Op5×Hp) (fun q=>[iv q.1,iv q.2.1,I q.2.2.1]) (fun q=>[tR tP q.2.2.2.1,tR tO q.2.2.2.2.AD,tR tW q.2.2.2.2.B3,tI q.2.2.2.2.buffer,tS q.2.2.2.2.sites]) (fun q=>q.1) (fun q=>q.1+q.2.2.2.1.length≤m∧q.2.1≤L.length∧(∀o∈q.2.2.2.1,OpD o)∧BZ q.2.2.2.2) (n,i1,z1,[],hp0) rfl rfl ⟨by simp;omega,h1,by simp,kR⟩ (fun R q hq hR=> ?_)
 obtain ⟨n,i,z,l,hp⟩:=q
 obtain ⟨q1,q2,q3,q4⟩:=hq
 simp only at q1 q2 q3 q4
 have ol:=q4.ol
 simp only [AJ,AT,AL,AR,AS,AE,AI,AU,AK,AN,AO,AQ,AM,AP,BJ,BO,BL,BM,BN,BP,BK,A9,A4,A6,A7,A8,A5]
 refine JM (AW (fun hgt=> ?_) fun hle=> ?_)
 ·have hgt:0<n:=by omega
  refine aI hb q2 (by omega) fun o i2 z2 ho h2=> ?_
  simp only [AJ,AT,AL,AR,AS,AE,AI,AU,AK,AN,AO,AQ,AM,AP,BJ,BO,BL,BM,BN,BP,BK,A9,A4,A6,A7,A8,A5]
  refine QE q4.fits q4.KK ho.f.a ho.f.c ?_
  rw [VQ q4]
  refine EH rfl (by first | omega | (simp only [AJ,AT,AL,AR,AS,AE,AI,AU,AK,AN,AO,AQ,AM,AP,BJ,BO,BL,BM,BN,BP,BK,A9,A4,A6,A7,A8,A5];omega)) (HJ ⟨by omega,by omega⟩ ?_)
  have hR:=hR (n-1,i2,z2,l++[o],(E9 hp o).1) ⟨by simp;omega,h2,fun x hx=> ?_,q4.step⟩ (by simp only;omega)
  ·rw [show (n:Int)-1=((n-1:Nat):Int) from by omega,oV]
   exact hR
  ·rcases List.mem_append.1 hx with hx | hx
   ·exact q3 x hx
   ·rw [List.mem_singleton.1 hx];exact ho
 ·exact h l i z (by omega) q3 q2
end Go.Proofs.Ytklmcfpgdfibnaa.P
