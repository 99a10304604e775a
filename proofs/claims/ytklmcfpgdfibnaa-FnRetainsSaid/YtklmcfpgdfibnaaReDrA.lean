/- A part of the proof. -/
import Derived.Test.YtklmcfpgdfibnaaReHpFb
namespace Go.Proofs.Ytklmcfpgdfibnaa.P
open Go Go.Proofs.Ytklmcfpgdfibnaa Go.Proofs.Ytklmcfpgdfibnaa.Eng
set_option linter.unusedVariables false
set_option maxHeartbeats 4000000
set_option linter.unusedVariables false
set_option linter.unusedSimpArgs false
attribute [local irreducible] prP gP gE gF AY ixW ldc ldg ldl stc stg scW mkW apW BD cl2 BQ CZ B9
variable {w0:World}
def tY (l:List Int):List T:=l.map fun n=> .c (.int .u8 n)
structure QL (l:List Int):Prop where
 len:(l.length:Int)<2^62
 all: ∀x∈l,0≤x∧x≤255
theorem eR (l:List Int):cnt 1 (tY l)=l.length:=by simp [cnt,tY]
theorem ldY {l:List Int} {i:Nat} {K:Value→Prop} (hi:i<l.length) (h:K (.int .u8 (gI l i))):ldc (tY l) [] (AA (iv i)*1) K:=by
 rw [←DB hi] at h
 exact mQ (by rw [AV];simp [tY,hi]) h
theorem QL.at {l:List Int} (h:QL l) {i:Nat} (hi:i<l.length):0≤gI l i∧gI l i≤255:=by rw [←DB hi];exact h.all _ (List.getElem_mem hi)
theorem cT {a b:Int} {K:Value→Prop} (h: ∀x,F64 x→K (I x)):prP (bnI .mul (I a) (I b)) K:=CM (v:=I (w64 (a*b))) rfl (h _ (nZ _))
theorem WM {a:Int} {m:Nat} {K:Value→Prop} (hm:m<2^62) (h: ∀x:Int,0≤x→x≤m→K (I x)):prP (bnI .and (I a) (I m)) K:=by
 refine CM (v:= .int .i64 (IntKind.i64.wrap (BitVec.ofInt 64 a&&& BitVec.ofInt 64 m).toNat)) rfl ?_
 have e:(BitVec.ofInt 64 a&&& BitVec.ofInt 64 (m:Int)).toNat≤m:=by
  rw [BitVec.toNat_and,BitVec.ofInt_natCast,BitVec.toNat_ofNat,Nat.mod_eq_of_lt (by omega)]
  exact Nat.and_le_right
 rw [NZ ⟨by omega,by omega⟩]
 exact h _ (by omega) (by omega)
theorem nV {a b:Int} {K:Value→Prop} (h: ∀x:Int,K (I x)):prP (bnI .xor (I a) (I b)) K:=
 CM (v:= .int .i64 (IntKind.i64.wrap (BitVec.ofInt 64 a^^^BitVec.ofInt 64 b).toNat)) rfl (h _)
theorem cY {a:Int} {n:Nat} {K:Value→Prop} (h: ∀x:Int,K (I x)):prP (bnI .shr (I a) (.int .u64 n)) K:=by
 have e:bnI .shr (I a) (.int .u64 (n:Int))=some (.int .i64 ((a:Int).fdiv (2^min (n:Int).toNat 64))):=by
  show (if (n:Int)<0 then none else _)=_
  rw [if_neg (by omega)];rfl
 rw [e];exact CM rfl (h _)
theorem ZN {L:List Int} {K:J2} (hb:QL L) (h: ∀z,K [iv 0,I z] []):cl2 ⟨Try.prog,w0⟩ 85 HD.sg [] [tY L] K:=by
 have hL:=hb.len
 refine HD.cl2 ?_
 unfold HD.txt
 rw [eR]
 refine FW ⟨by omega,by omega⟩ ?_
 refine D6 (α:=Int×Nat) (fun q=>[I q.1,iv q.2]) (fun _=>[]) (fun q=>L.length-q.2) (fun q=>q.2≤L.length) (10101+(L.length:Int),0) rfl rfl (Nat.zero_le _) (fun R q hq hR=> ?_)
 obtain ⟨a,i⟩:=q
 simp only at hq hR
 simp only [AJ,AN,AQ,AR,AK,AE,AL,AI,AS,AP,AU,AT,AM,AO,BJ,BP,BM,BN,BO,BS,BL,A4,A5,A9,A8,BA,A7]
 refine A6 (BC (LZ (fun hlt=> ?_) fun hge=>EH hge rfl (B6 (h a))))
 refine A6 (DX hlt rfl (AW (fun h4=> ?_) fun _=>h a))
 have hlt:i<L.length:=by omega
 have hx:=hb.at hlt
 refine cT fun x _=>AH hlt (ldY hlt (cX ⟨by omega,by omega⟩ (GS (GS (WM (m:=1073741823) (by omega) fun y _ _=>BB (by omega) ?_)))))
 exact hR (y,i+1) (by simp only;omega) (by simp only;omega)
theorem ID {L:List Int} {i:Nat} {z:Int} {K:J2} (hb:QL L) (hi:i≤L.length) (h: ∀x i' z',0≤x→x≤255→i'≤L.length→K [I x,iv i',I z'] []):cl2 ⟨Try.prog,w0⟩ 151 DN.sg [iv i,I z] [tY L] K:=by
 have hL:=hb.len
 refine DN.cl2 ?_
 unfold DN.txt
 rw [eR]
 refine cT fun a _=>GS (cY (n:=33) fun b=>cY (n:=45) fun c=>nV fun d=>WM (m:=255) (by omega) fun x h0 h1=>BT ?_)
 refine A6 (AW (fun hlt=> ?_) fun hge=> ?_)
 ·have hlt:i<L.length:=by omega
  have hx:=hb.at hlt
  refine AH hlt (ldY hlt (cX ⟨by omega,by omega⟩ (FW ⟨by omega,by omega⟩ (WM (m:=255) (by omega) fun y y0 y1=>BB (by omega) ?_))))
  exact h y (i+1) _ y0 y1 (by omega)
 ·exact h x i _ h0 h1 hi
theorem CQ {L:List Int} {i:Nat} {z n:Int} {K:J2} (hb:QL L) (hi:i≤L.length) (h: ∀x i' z',0≤x→(x<n∨(n≤0∧x=0))→i'≤L.length→K [I x,iv i',I z'] []):cl2 ⟨Try.prog,w0⟩ 112 BV.sg [iv i,I z,I n] [tY L] K:=by
 refine BV.cl2 ?_
 unfold BV.txt
 refine J5 (AW (fun h0=>h 0 i z (by omega) (.inr ⟨h0,rfl⟩) hi) fun h0=>J5 (AW (fun h1=> ?_) fun h1=> ?_))
 ·refine ID hb hi fun x i' z' x0 x1 hi'=>PT x0 (by omega) ?_
  exact h _ i' z' (Int.emod_nonneg _ (by omega)) (.inl (Int.emod_lt_of_pos _ (by omega))) hi'
 ·refine ID hb hi fun x i1 z1 x0 x1 h1=>ID hb h1 fun y i2 z2 y0 y1 h2=>ID hb h2 fun u i3 z3 u0 u1 h3=>ID hb h3 fun v i4 z4 v0 v1 h4=> ?_
  simp only [AJ,AN,AQ,AR,AK,AE,AL,AI,AS,AP,AU,AT,AM,AO,BJ,BP,BM,BN,BO,BS,BL,A4,A5,A9,A8,BA,A7]
  refine S4 ⟨by omega,by omega⟩ (S4 ⟨by omega,by omega⟩ (FW ⟨by omega,by omega⟩ (S4 ⟨by omega,by omega⟩ (FW ⟨by omega,by omega⟩ (FW ⟨by omega,by omega⟩ (PT (by omega) (by omega) ?_))))))
  exact h _ i4 z4 (Int.emod_nonneg _ (by omega)) (.inl (Int.emod_lt_of_pos _ (by omega))) h4
theorem M4 {L:List Int} {i:Nat} {z n:Int} {K:J2} (hb:QL L) (hi:i≤L.length) (h: ∀(b:Bool) i' z',i'≤L.length→K [.bool b,iv i',I z'] []):cl2 ⟨Try.prog,w0⟩ 95 EB.sg [iv i,I z,I n] [tY L] K:=
 EB.cl2 (CQ hb hi fun x i' z' _ _ hi'=>B1 (h _ i' z' hi'))
theorem FO {L l:List Int} {i:Nat} {z:Int} {K:J2} (hb:QL L) (hi:i≤L.length) (hl:0<l.length) (h: ∀v∈l, ∀i' z',i'≤L.length→K [I v,iv i',I z'] []):cl2 ⟨Try.prog,w0⟩ 140 BZ.sg [iv i,I z] [tY L,tI l] K:=by
 refine BZ.cl2 ?_
 unfold BZ.txt
 rw [AE]
 refine CQ hb hi fun x i' z' x0 x1 hi'=> ?_
 simp only [AJ,AN,AQ,AR,AK,AE,AL,AI,AS,AP,AU,AT,AM,AO,BJ,BP,BM,BN,BO,BS,BL,A4,A5,A9,A8,BA,A7]
 have hx:x.toNat<l.length:=by omega
 refine TY x0 (by omega) (ldI hx ?_)
 exact h _ (DJ hx) i' z' hi'
theorem tB {l:List ByteArray} {i:Nat} (h:i<l.length):gS l i∈l:=by rw [←S1 h];exact List.getElem_mem h
theorem MJ {L:List Int} {l:List ByteArray} {i:Nat} {z:Int} {K:J2} (hb:QL L) (hi:i≤L.length) (hl:0<l.length) (h: ∀v∈l, ∀i' z',i'≤L.length→K [.string v,iv i',I z'] []):cl2 ⟨Try.prog,w0⟩ 139 DR.sg [iv i,I z] [tY L,tS l] K:=by
 refine DR.cl2 ?_
 unfold DR.txt
 rw [AL]
 refine CQ hb hi fun x i' z' x0 x1 hi'=> ?_
 simp only [AJ,AN,AQ,AR,AK,AE,AL,AI,AS,AP,AU,AT,AM,AO,BJ,BP,BM,BN,BO,BS,BL,A4,A5,A9,A8,BA,A7]
 have hx:x.toNat<l.length:=by omega
 refine TY x0 (by omega) (ldS hx ?_)
 exact h _ (tB hx) i' z' hi'
def IC (l:List AG) (i:Nat):List Int:=if (i:Int)<8∧(ob l i).live=true then [B7 i (ob l i).gen] else []
def IB (l:List AG):List Int:=pick (IC l) l.length
theorem YB (l:List AG) (i:Nat):(IC l i).length≤1:=by unfold IC;split <;> simp
theorem WD {α:Type} {f:Nat→List α} {P:α→Prop} (h: ∀i, ∀x∈f i,P x): ∀n, ∀x∈pick f n,P x
 | 0,x,hx=>by simp [pick] at hx
 | n+1,x,hx=>by
   rw [pick] at hx
   rcases List.mem_append.1 hx with hx | hx
   ·exact WD h n x hx
   ·exact h n x hx
theorem oC (l:List AG): ∀x∈IB l, -1≤x∧x≤7999:=WD (fun i x hx=>by
 unfold IC at hx;split at hx
 ·rw [List.mem_singleton.1 hx];exact aC _ _
 ·cases hx) _
theorem P9 (l:List AG):(IB l).length≤l.length:=FU (YB l) _
theorem LK {a:List AG} {b c d:List T} {K:J2} (hl:(a.length:Int)≤1048576) (h:K [] [tI (IB a)]):cl2 ⟨Try.prog,w0⟩ 30 C9.sg [] [tR tO a,b,c,d] K:=by
 refine C9.cl2 ?_
 unfold C9.txt
 refine BF (fun i=>[iv i]) (fun i=>[tI (pick (IC a) i)]) a.length (fun i=>i≤8) rfl rfl (by omega) (fun R i hi hP hR=> ?_)
 have hpl:=FU (YB a) i
 have hstop:a.length≤i∨8≤i→K [] [tI (pick (IC a) i)]:=by
  intro hs
  have:pick (IC a) a.length=pick (IC a) i:=by
   rcases hs with hs | hs
   ·have:i=a.length:=by omega
    rw [this]
   ·exact NO (fun k hk=>by unfold IC;rw [if_neg];omega) _ hi
  rw [IB,this] at h;exact h
 simp only [AJ,AN,AQ,AR,AK,AE,AL,AI,AS,AP,AU,AT,AM,AO,BJ,BP,BM,BN,BO,BS,BL,A4,A5,A9,A8,BA,A7]
 refine A6 (BC (LZ (fun hlt=> ?_) fun hge=> ?_))
 rotate_left
 ·exact EH hge rfl (B6 (hstop (by omega)))
 refine A6 (DX hlt rfl (AW (fun h4=>BT ?_) fun h4=>hstop (by omega)))
 have hlt:i<a.length:=by omega
 have hR:=hR hlt (by omega)
 refine AH hlt (KT hlt rfl ?_)
 cases hv:(ob a i).live with
 | true=>
   have e:IC a i=[B7 i (ob a i).gen]:=by unfold IC;rw [if_pos ⟨by omega,hv⟩]
   refine CG (AH hlt (JR hlt (by decide) rfl (GZ (DH rfl (by first | omega | (simp only [AJ,AN,AQ,AR,AK,AE,AL,AI,AS,AP,AU,AT,AM,AO,BJ,BP,BM,BN,BO,BS,BL,A4,A5,A9,A8,BA,A7];omega)) ?_))))
   simp only [AJ,AN,AQ,AR,AK,AE,AL,AI,AS,AP,AU,AT,AM,AO,BJ,BP,BM,BN,BO,BS,BL,A4,A5,A9,A8,BA,A7]
   rw [CU,WE e]
   exact BB (by omega) hR
 | false=>
   have e:IC a i=[]:=by unfold IC;rw [if_neg];rintro ⟨_,h⟩;rw [hv] at h;cases h
   refine B6 ?_
   simp only [AJ,AN,AQ,AR,AK,AE,AL,AI,AS,AP,AU,AT,AM,AO,BJ,BP,BM,BN,BO,BS,BL,A4,A5,A9,A8,BA,A7]
   rw [←TE e] at hR
   exact BB (by omega) hR
theorem LX {L:List Int} {i:Nat} {z:Int} {a:List AG} {b c d:List T} {K:J2} (hb:QL L) (hi:i≤L.length) (hl:(a.length:Int)≤1048576) (h: ∀v i' z', -1≤v→v≤7999→i'≤L.length→K [I v,iv i',I z'] []):cl2 ⟨Try.prog,w0⟩ 113 FN.sg [iv i,I z] [tY L,tR tO a,b,c,d] K:=by
 have hbd:=oC a
 refine FN.cl2 ?_
 unfold FN.txt
 refine LK hl ?_
 simp only [AJ,AN,AQ,AR,AK,AE,AL,AI,AS,AP,AU,AT,AM,AO,BJ,BP,BM,BN,BO,BS,BL,A4,A5,A9,A8,BA,A7]
 have pk6: ∀{i:Nat} {z:Int},i≤L.length→cl2 ⟨Try.prog,w0⟩ 140 BZ.sg [iv i,I z] [tY L,[T.c (.int .i64 (-1)),T.c (.int .i64 0),T.c (.int .i64 8),T.c (.int .i64 9),T.c (.int .i64 17),T.c (.int .i64 4000)]] fun v7 d8=>K [nx v7 0,nx v7 1,nx v7 2] []:=fun hi=>by
  refine FO (l:=[-1,0,8,9,17,4000]) hb hi (by simp) fun v hv i' z' hi'=> ?_
  have: -1≤v∧v≤7999:=by simp at hv;omega
  exact h v i' z' this.1 this.2 hi'
 refine B1 (BC (xQ (fun hne=> ?_) fun he=> ?_))
 ·refine M4 hb hi fun b i' z' hi'=>EH hne rfl (V7 (fun _=>pk6 hi') fun _=> ?_)
  refine CQ hb hi' fun x i2 z2 x0 x1 hi2=> ?_
  simp only [AJ,AN,AQ,AR,AK,AE,AL,AI,AS,AP,AU,AT,AM,AO,BJ,BP,BM,BN,BO,BS,BL,A4,A5,A9,A8,BA,A7]
  have hx:x.toNat<(IB a).length:=by omega
  have:=hbd _ (DJ hx)
  exact TY x0 (by omega) (ldI hx (h _ i2 z2 this.1 this.2 hi2))
 ·exact DX he rfl (CG (pk6 hi))
structure OpD (o:Op5):Prop where
 k:0≤o.kind∧o.kind≤11
 a: -1≤o.a∧o.a≤7999
 b: -1≤o.b∧o.b≤3
 c: -1≤o.c∧o.c≤7999
 s:o.site.size≤12
theorem OpD.f {o:Op5} (h:OpD o):OpF o:=⟨by have:=h.k;exact ⟨by omega,by omega⟩,by have:=h.a;exact ⟨by omega,by omega⟩,by have:=h.b;exact ⟨by omega,by omega⟩,by have:=h.c;exact ⟨by omega,by omega⟩,by have:=h.s;omega⟩
theorem dX {L:List Int} {i:Nat} {z:Int} {a:List AG} {b c d:List T} {K:J2} (hb:QL L) (hi:i≤L.length) (hl:(a.length:Int)≤1048576) (h: ∀(o:Op5) i' z',OpD o→i'≤L.length→K [I o.kind,I o.a,I o.b,I o.c, .string o.site,iv i',I z'] []):cl2 ⟨Try.prog,w0⟩ 128 H2.sg [iv i,I z] [tY L,tR tO a,b,c,d] K:=by
 refine H2.cl2 ?_
 unfold H2.txt
 refine FO (l:=[1,1,1,2,3,3,3,4,4,4,4,5,6,7,8,9,10,4]) hb hi (by simp) fun kd hkd i1 z1 h1=> ?_
 have hkd:0≤kd∧kd≤11:=by simp at hkd;omega
 have nil:(⟨#[]⟩:ByteArray).size≤12:=Nat.zero_le _
 have hK: ∀(o:Op5) i' z' (y1 y2 y3 y4 y5:Value),OpD o→i'≤L.length→cl2 ⟨Try.prog,w0⟩ 112 BV.sg [iv i',I z',I 50] [tY L] fun v34 d35=>
   prP (bnI .eql (nx v34 0) (.int .i64 0)) fun t49_36=>
   AY t49_36 (cl2 ⟨Try.prog,w0⟩ 140 BZ.sg [nx v34 1,nx v34 2] [tY L,[T.c (.int .i64 0),T.c (.int .i64 11)]] fun v37 d38=>K [nx v37 0,I o.a,I o.b,I o.c, .string o.site,nx v37 1,nx v37 2] []) (
   prP (bnI .eql (nx v34 0) (.int .i64 1)) fun t55_39=>
   AY t55_39 (cl2 ⟨Try.prog,w0⟩ 140 BZ.sg [nx v34 1,nx v34 2] [tY L,[T.c (.int .i64 (-1)),T.c (.int .i64 3)]] fun v40 d41=>K [I o.kind,I o.a,nx v40 0,I o.c, .string o.site,nx v40 1,nx v40 2] []) (
   prP (bnI .eql (nx v34 0) (.int .i64 2)) fun t61_42=>
   AY t61_42 (cl2 ⟨Try.prog,w0⟩ 139 DR.sg [nx v34 1,nx v34 2] [tY L,[T.c (.string {data:= #[]}),T.c (.string {data:= #[116,111,111,108,111,110,103,97,115,105,116,101]}),T.c (.string {data:= #[115,49]}),T.c (.string {data:= #[115,50]}),T.c (.string {data:= #[115,51]}),T.c (.string {data:= #[115,52]}),T.c (.string {data:= #[115,53]})]] fun v43 d44=>K [I o.kind,I o.a,I o.b,I o.c,nx v43 0,nx v43 1,nx v43 2] [])
    (K [I o.kind,I o.a,I o.b,I o.c, .string o.site,nx v34 1,nx v34 2] []))):=by
  intro o i' z' _ _ _ _ _ ho hi'
  refine CQ hb hi' fun x i2 z2 x0 x1 h2=> ?_
  refine B1 (AW (fun _=> ?_) fun _=>B1 (AW (fun _=> ?_) fun _=>B1 (AW (fun _=> ?_) fun _=>h o i2 z2 ho h2)))
  ·refine FO (l:=[0,11]) hb h2 (by simp) fun v hv i3 z3 h3=> ?_
   exact h ⟨v,o.a,o.b,o.c,o.site⟩ i3 z3 ⟨by simp at hv;simp only;omega,ho.a,ho.b,ho.c,ho.s⟩ h3
  ·refine FO (l:=[-1,3]) hb h2 (by simp) fun v hv i3 z3 h3=> ?_
   exact h ⟨o.kind,o.a,v,o.c,o.site⟩ i3 z3 ⟨ho.k,ho.a,by simp at hv;simp only;omega,ho.c,ho.s⟩ h3
  ·refine MJ (l:=[⟨#[]⟩,⟨#[116,111,111,108,111,110,103,97,115,105,116,101]⟩,⟨#[115,49]⟩,⟨#[115,50]⟩,⟨#[115,51]⟩,⟨#[115,52]⟩,⟨#[115,53]⟩]) hb h2 (by simp) fun v hv i3 z3 h3=> ?_
   refine h ⟨o.kind,o.a,o.b,o.c,v⟩ i3 z3 ⟨ho.k,ho.a,ho.b,ho.c, ?_⟩ h3
   simp only [List.mem_cons,List.not_mem_nil,or_false] at hv
   rcases hv with rfl | rfl | rfl | rfl | rfl | rfl | rfl <;> (simp only;decide)
 refine BT ?_
 refine B1 (AW (fun _=> ?_) fun _=>B1 (AW (fun _=> ?_) fun _=>BT ?_))
 ·refine MJ (l:=[⟨#[97]⟩,⟨#[98]⟩,⟨#[108,105,115,116]⟩,⟨#[110,111,100,101]⟩]) hb h1 (by simp) fun v hv i3 z3 h3=>BT ?_
  refine hK ⟨kd,0,0,0,v⟩ i3 z3 (I 0) (I 0) (I 0) (I 0) (I 0) ⟨hkd,by simp only;omega,by simp only;omega,by simp only;omega, ?_⟩ h3
  simp only [List.mem_cons,List.not_mem_nil,or_false] at hv
  rcases hv with rfl | rfl | rfl | rfl <;> (simp only;decide)
 ·refine LX hb h1 hl fun x i2 z2 x0 x1 h2=>CQ hb h2 fun y i3 z3 y0 y1 h3=>LX hb h3 hl fun u i4 z4 u0 u1 h4=>M4 hb h4 fun b i5 z5 h5=>V7 (fun _=>BT ?_) fun _=>BT ?_
  ·exact hK ⟨kd,x,y, -1,⟨#[]⟩⟩ i5 z5 (I 0) (I 0) (I 0) (I 0) (I 0) ⟨hkd,⟨x0,x1⟩,by simp only;omega,by simp only;omega,nil⟩ h5
  ·exact hK ⟨kd,x,y,u,⟨#[]⟩⟩ i5 z5 (I 0) (I 0) (I 0) (I 0) (I 0) ⟨hkd,⟨x0,x1⟩,by simp only;omega,⟨u0,u1⟩,nil⟩ h5
 ·refine B1 (AW (fun e8=> ?_) fun n8=>B1 ?_)
  ·refine FR e8 (CQ hb h1 fun x i2 z2 x0 x1 h2=>BT ?_)
   exact hK ⟨kd,x,0,0,⟨#[]⟩⟩ i2 z2 (I 0) (I 0) (I 0) (I 0) (I 0) ⟨hkd,by simp only;omega,by simp only;omega,by simp only;omega,nil⟩ h2
  ·by_cases e9:kd=9
   ·refine FR e9 (CQ hb h1 fun x i2 z2 x0 x1 h2=>BT ?_)
    exact hK ⟨kd,x,0,0,⟨#[]⟩⟩ i2 z2 (I 0) (I 0) (I 0) (I 0) (I 0) ⟨hkd,by simp only;omega,by simp only;omega,by simp only;omega,nil⟩ h2
   ·refine G6 e9 (B1 (AW (fun _=>BT ?_) fun _=>LX hb h1 hl fun x i2 z2 x0 x1 h2=>BT ?_))
    ·exact hK ⟨kd,0,0,0,⟨#[]⟩⟩ i1 z1 (I 0) (I 0) (I 0) (I 0) (I 0) ⟨hkd,by simp only;omega,by simp only;omega,by simp only;omega,nil⟩ h1
    ·exact hK ⟨kd,x,0,0,⟨#[]⟩⟩ i2 z2 (I 0) (I 0) (I 0) (I 0) (I 0) ⟨hkd,⟨x0,x1⟩,by simp only;omega,by simp only;omega,nil⟩ h2
theorem aF {L:List Int} {i m:Nat} {z:Int} {K:J2} (hb:QL L) (hi:i≤L.length) (hm:m≤1000) (h: ∀(l:List Op5) i' z',l.length≤m→(∀o∈l,OpD o)→i'≤L.length→K [iv i',I z'] [tR tP l]):cl2 ⟨Try.prog,w0⟩ 108 HE.sg [iv i,I z,I m] [tY L] K:=by
 refine HE.cl2 ?_
 unfold HE.txt
 refine OT (FW ⟨by omega,by omega⟩ (CQ hb hi fun x i1 z1 x0 x1 h1=> ?_))
 obtain ⟨n,rfl⟩: ∃n:Nat,x=n:=⟨x.toNat,by omega⟩
 simp only [AJ,AN,AQ,AR,AK,AE,AL,AI,AS,AP,AU,AT,AM,AO,BJ,BP,BM,BN,BO,BS,BL,A4,A5,A9,A8,BA,A7]
 refine D6 (α:=Nat×Nat×Int×List Op5×Hp) (fun q=>[iv q.1,iv q.2.1,I q.2.2.1]) (fun q=>[tR tP q.2.2.2.1,tR tO q.2.2.2.2.AD,tR tW q.2.2.2.2.B2,tI q.2.2.2.2.buffer,tS q.2.2.2.2.sites]) (fun q=>q.1) (fun q=>q.1+q.2.2.2.1.length≤m∧q.2.1≤L.length∧(∀o∈q.2.2.2.1,OpD o)∧BW q.2.2.2.2) (n,i1,z1,[],hp0) rfl rfl ⟨by simp;omega,h1,by simp,oI⟩ (fun R q hq hR=> ?_)
 obtain ⟨n,i,z,l,hp⟩:=q
 obtain ⟨q1,q2,q3,q4⟩:=hq
 simp only at q1 q2 q3 q4
 have ol:=q4.ol
 simp only [AJ,AN,AQ,AR,AK,AE,AL,AI,AS,AP,AU,AT,AM,AO,BJ,BP,BM,BN,BO,BS,BL,A4,A5,A9,A8,BA,A7]
 refine H0 (AW (fun hgt=> ?_) fun hle=> ?_)
 ·have hgt:0<n:=by omega
  refine dX hb q2 (by omega) fun o i2 z2 ho h2=> ?_
  simp only [AJ,AN,AQ,AR,AK,AE,AL,AI,AS,AP,AU,AT,AM,AO,BJ,BP,BM,BN,BO,BS,BL,A4,A5,A9,A8,BA,A7]
  refine RV q4.fits q4.IP ho.f.a ho.f.c ?_
  rw [XH q4]
  refine DH rfl (by first | omega | (simp only [AJ,AN,AQ,AR,AK,AE,AL,AI,AS,AP,AU,AT,AM,AO,BJ,BP,BM,BN,BO,BS,BL,A4,A5,A9,A8,BA,A7];omega)) (I5 ⟨by omega,by omega⟩ ?_)
  have hR:=hR (n-1,i2,z2,l++[o],(FL hp o).1) ⟨by simp;omega,h2,fun x hx=> ?_,q4.step⟩ (by simp only;omega)
  ·rw [show (n:Int)-1=((n-1:Nat):Int) from by omega,rQ]
   exact hR
  ·rcases List.mem_append.1 hx with hx | hx
   ·exact q3 x hx
   ·rw [List.mem_singleton.1 hx];exact ho
 ·exact h l i z (by omega) q3 q2
end Go.Proofs.Ytklmcfpgdfibnaa.P
