/- A part of the proof. -/
import Derived.Test.YtklmcfpgdfibnaaRcHpFb
namespace Go.Proofs.Ytklmcfpgdfibnaa.P
open Go Go.Proofs.Ytklmcfpgdfibnaa Go.Proofs.Ytklmcfpgdfibnaa.Eng
set_option linter.unusedVariables false
set_option maxHeartbeats 4000000
set_option linter.unusedVariables false
set_option linter.unusedSimpArgs false
attribute [local irreducible] prP gP gE gF AW ixW ldc ldg ldl stc stg scW mkW apW BE cl2 BS C6 CO
variable {w0:World}
def tY (l:List Int):List T:=l.map fun n=> .c (.int .u8 n)
structure P3 (l:List Int):Prop where
 len:(l.length:Int)<2^62
 all: ∀x∈l,0≤x∧x≤255
theorem dW (l:List Int):cnt 1 (tY l)=l.length:=by simp [cnt,tY]
theorem ldY {l:List Int} {i:Nat} {K:Value→Prop} (hi:i<l.length) (h:K (.int .u8 (gI l i))):ldc (tY l) [] (AB (iv i)*1) K:=by
 rw [←DM hi] at h
 exact m5 (by rw [AZ];simp [tY,hi]) h
theorem P3.at {l:List Int} (h:P3 l) {i:Nat} (hi:i<l.length):0≤gI l i∧gI l i≤255:=by rw [←DM hi];exact h.all _ (List.getElem_mem hi)
theorem ZO {a b:Int} {K:Value→Prop} (h: ∀x,F64 x→K (I x)):prP (bnI .mul (I a) (I b)) K:=CI (v:=I (w64 (a*b))) rfl (h _ (mU _))
theorem V0 {a:Int} {m:Nat} {K:Value→Prop} (hm:m<2^62) (h: ∀x:Int,0≤x→x≤m→K (I x)):prP (bnI .and (I a) (I m)) K:=by
 refine CI (v:= .int .i64 (IntKind.i64.wrap (BitVec.ofInt 64 a&&& BitVec.ofInt 64 m).toNat)) rfl ?_
 have e:(BitVec.ofInt 64 a&&& BitVec.ofInt 64 (m:Int)).toNat≤m:=by
  rw [BitVec.toNat_and,BitVec.ofInt_natCast,BitVec.toNat_ofNat,Nat.mod_eq_of_lt (by omega)]
  exact Nat.and_le_right
 rw [M7 ⟨by omega,by omega⟩]
 exact h _ (by omega) (by omega)
theorem kW {a b:Int} {K:Value→Prop} (h: ∀x:Int,K (I x)):prP (bnI .xor (I a) (I b)) K:=
 CI (v:= .int .i64 (IntKind.i64.wrap (BitVec.ofInt 64 a^^^BitVec.ofInt 64 b).toNat)) rfl (h _)
theorem ZX {a:Int} {n:Nat} {K:Value→Prop} (h: ∀x:Int,K (I x)):prP (bnI .shr (I a) (.int .u64 n)) K:=by
 have e:bnI .shr (I a) (.int .u64 (n:Int))=some (.int .i64 ((a:Int).fdiv (2^min (n:Int).toNat 64))):=by
  show (if (n:Int)<0 then none else _)=_
  rw [if_neg (by omega)];rfl
 rw [e];exact CI rfl (h _)
theorem YT {L:List Int} {K:J2} (hb:P3 L) (h: ∀z,K [iv 0,I z] []):cl2 ⟨Try.prog,w0⟩ 85 GM.sg [] [tY L] K:=by
 have hL:=hb.len
 refine GM.cl2 ?_
 unfold GM.txt
 rw [dW]
 refine FI ⟨by omega,by omega⟩ ?_
 refine FG (α:=Int×Nat) (fun q=>[I q.1,iv q.2]) (fun _=>[]) (fun q=>L.length-q.2) (fun q=>q.2≤L.length) (10101+(L.length:Int),0) rfl rfl (Nat.zero_le _) (fun R q hq hR=> ?_)
 obtain ⟨a,i⟩:=q
 simp only at hq hR
 simp only [AH,AP,AK,AM,AO,AE,AI,AR,AN,AL,AS,AJ,AT,AQ,BH,BL,BM,BN,BP,BO,BK,A5,A8,A4,A9,A6,A7]
 refine BA (BT (LI (fun hlt=> ?_) fun hge=>EJ hge rfl (B7 (h a))))
 refine BA (EI hlt rfl (AX (fun h4=> ?_) fun _=>h a))
 have hlt:i<L.length:=by omega
 have hx:=hb.at hlt
 refine ZO fun x _=>AU hlt (ldY hlt (aH ⟨by omega,by omega⟩ (G7 (G7 (V0 (m:=1073741823) (by omega) fun y _ _=>BB (by omega) ?_)))))
 exact hR (y,i+1) (by simp only;omega) (by simp only;omega)
theorem HW {L:List Int} {i:Nat} {z:Int} {K:J2} (hb:P3 L) (hi:i≤L.length) (h: ∀x i' z',0≤x→x≤255→i'≤L.length→K [I x,iv i',I z'] []):cl2 ⟨Try.prog,w0⟩ 151 DG.sg [iv i,I z] [tY L] K:=by
 have hL:=hb.len
 refine DG.cl2 ?_
 unfold DG.txt
 rw [dW]
 refine ZO fun a _=>G7 (ZX (n:=33) fun b=>ZX (n:=45) fun c=>kW fun d=>V0 (m:=255) (by omega) fun x h0 h1=>BZ ?_)
 refine BA (AX (fun hlt=> ?_) fun hge=> ?_)
 ·have hlt:i<L.length:=by omega
  have hx:=hb.at hlt
  refine AU hlt (ldY hlt (aH ⟨by omega,by omega⟩ (FI ⟨by omega,by omega⟩ (V0 (m:=255) (by omega) fun y y0 y1=>BB (by omega) ?_))))
  exact h y (i+1) _ y0 y1 (by omega)
 ·exact h x i _ h0 h1 hi
theorem CF {L:List Int} {i:Nat} {z n:Int} {K:J2} (hb:P3 L) (hi:i≤L.length) (h: ∀x i' z',0≤x→(x<n∨(n≤0∧x=0))→i'≤L.length→K [I x,iv i',I z'] []):cl2 ⟨Try.prog,w0⟩ 112 BQ.sg [iv i,I z,I n] [tY L] K:=by
 refine BQ.cl2 ?_
 unfold BQ.txt
 refine JN (AX (fun h0=>h 0 i z (by omega) (.inr ⟨h0,rfl⟩) hi) fun h0=>JN (AX (fun h1=> ?_) fun h1=> ?_))
 ·refine HW hb hi fun x i' z' x0 x1 hi'=>T1 x0 (by omega) ?_
  exact h _ i' z' (Int.emod_nonneg _ (by omega)) (.inl (Int.emod_lt_of_pos _ (by omega))) hi'
 ·refine HW hb hi fun x i1 z1 x0 x1 h1=>HW hb h1 fun y i2 z2 y0 y1 h2=>HW hb h2 fun u i3 z3 u0 u1 h3=>HW hb h3 fun v i4 z4 v0 v1 h4=> ?_
  simp only [AH,AP,AK,AM,AO,AE,AI,AR,AN,AL,AS,AJ,AT,AQ,BH,BL,BM,BN,BP,BO,BK,A5,A8,A4,A9,A6,A7]
  refine QM ⟨by omega,by omega⟩ (QM ⟨by omega,by omega⟩ (FI ⟨by omega,by omega⟩ (QM ⟨by omega,by omega⟩ (FI ⟨by omega,by omega⟩ (FI ⟨by omega,by omega⟩ (T1 (by omega) (by omega) ?_))))))
  exact h _ i4 z4 (Int.emod_nonneg _ (by omega)) (.inl (Int.emod_lt_of_pos _ (by omega))) h4
theorem LS {L:List Int} {i:Nat} {z n:Int} {K:J2} (hb:P3 L) (hi:i≤L.length) (h: ∀(b:Bool) i' z',i'≤L.length→K [.bool b,iv i',I z'] []):cl2 ⟨Try.prog,w0⟩ 95 DT.sg [iv i,I z,I n] [tY L] K:=
 DT.cl2 (CF hb hi fun x i' z' _ _ hi'=>B2 (h _ i' z' hi'))
theorem FD {L l:List Int} {i:Nat} {z:Int} {K:J2} (hb:P3 L) (hi:i≤L.length) (hl:0<l.length) (h: ∀v∈l, ∀i' z',i'≤L.length→K [I v,iv i',I z'] []):cl2 ⟨Try.prog,w0⟩ 140 BY.sg [iv i,I z] [tY L,tI l] K:=by
 refine BY.cl2 ?_
 unfold BY.txt
 rw [AE]
 refine CF hb hi fun x i' z' x0 x1 hi'=> ?_
 simp only [AH,AP,AK,AM,AO,AE,AI,AR,AN,AL,AS,AJ,AT,AQ,BH,BL,BM,BN,BP,BO,BK,A5,A8,A4,A9,A6,A7]
 have hx:x.toNat<l.length:=by omega
 refine SZ x0 (by omega) (ldI hx ?_)
 exact h _ (C7 hx) i' z' hi'
theorem oY {l:List ByteArray} {i:Nat} (h:i<l.length):gS l i∈l:=by rw [←RG h];exact List.getElem_mem h
theorem LZ {L:List Int} {l:List ByteArray} {i:Nat} {z:Int} {K:J2} (hb:P3 L) (hi:i≤L.length) (hl:0<l.length) (h: ∀v∈l, ∀i' z',i'≤L.length→K [.string v,iv i',I z'] []):cl2 ⟨Try.prog,w0⟩ 139 DH.sg [iv i,I z] [tY L,tS l] K:=by
 refine DH.cl2 ?_
 unfold DH.txt
 rw [AI]
 refine CF hb hi fun x i' z' x0 x1 hi'=> ?_
 simp only [AH,AP,AK,AM,AO,AE,AI,AR,AN,AL,AS,AJ,AT,AQ,BH,BL,BM,BN,BP,BO,BK,A5,A8,A4,A9,A6,A7]
 have hx:x.toNat<l.length:=by omega
 refine SZ x0 (by omega) (ldS hx ?_)
 exact h _ (oY hx) i' z' hi'
def F5 (l:List AG) (i:Nat):List Int:=if (i:Int)<8∧(ob l i).live=true then [B8 i (ob l i).gen] else []
def GF (l:List AG):List Int:=pick (F5 l) l.length
theorem R9 (l:List AG) (i:Nat):(F5 l i).length≤1:=by unfold F5;split <;> simp
theorem UY {α:Type} {f:Nat→List α} {P:α→Prop} (h: ∀i, ∀x∈f i,P x): ∀n, ∀x∈pick f n,P x
 | 0,x,hx=>by simp [pick] at hx
 | n+1,x,hx=>by
   rw [pick] at hx
   rcases List.mem_append.1 hx with hx | hx
   ·exact UY h n x hx
   ·exact h n x hx
theorem mR (l:List AG): ∀x∈GF l, -1≤x∧x≤7999:=UY (fun i x hx=>by
 unfold F5 at hx;split at hx
 ·rw [List.mem_singleton.1 hx];exact Y1 _ _
 ·cases hx) _
theorem SO (l:List AG):(GF l).length≤l.length:=HC (R9 l) _
theorem K2 {a:List AG} {b c d:List T} {K:J2} (hl:(a.length:Int)≤1048576) (h:K [] [tI (GF a)]):cl2 ⟨Try.prog,w0⟩ 30 C9.sg [] [tR tO a,b,c,d] K:=by
 refine C9.cl2 ?_
 unfold C9.txt
 refine BG (fun i=>[iv i]) (fun i=>[tI (pick (F5 a) i)]) a.length (fun i=>i≤8) rfl rfl (by omega) (fun R i hi hP hR=> ?_)
 have hpl:=HC (R9 a) i
 have hstop:a.length≤i∨8≤i→K [] [tI (pick (F5 a) i)]:=by
  intro hs
  have:pick (F5 a) a.length=pick (F5 a) i:=by
   rcases hs with hs | hs
   ·have:i=a.length:=by omega
    rw [this]
   ·exact O6 (fun k hk=>by unfold F5;rw [if_neg];omega) _ hi
  rw [GF,this] at h;exact h
 simp only [AH,AP,AK,AM,AO,AE,AI,AR,AN,AL,AS,AJ,AT,AQ,BH,BL,BM,BN,BP,BO,BK,A5,A8,A4,A9,A6,A7]
 refine BA (BT (LI (fun hlt=> ?_) fun hge=> ?_))
 rotate_left
 ·exact EJ hge rfl (B7 (hstop (by omega)))
 refine BA (EI hlt rfl (AX (fun h4=>BZ ?_) fun h4=>hstop (by omega)))
 have hlt:i<a.length:=by omega
 have hR:=hR hlt (by omega)
 refine AU hlt (KA hlt rfl ?_)
 cases hv:(ob a i).live with
 | true=>
   have e:F5 a i=[B8 i (ob a i).gen]:=by unfold F5;rw [if_pos ⟨by omega,hv⟩]
   refine CT (AU hlt (I4 hlt (by decide) rfl (GH (EH rfl (by first | omega | (simp only [AH,AP,AK,AM,AO,AE,AI,AR,AN,AL,AS,AJ,AT,AQ,BH,BL,BM,BN,BP,BO,BK,A5,A8,A4,A9,A6,A7];omega)) ?_))))
   simp only [AH,AP,AK,AM,AO,AE,AI,AR,AN,AL,AS,AJ,AT,AQ,BH,BL,BM,BN,BP,BO,BK,A5,A8,A4,A9,A6,A7]
   rw [DJ,RU e]
   exact BB (by omega) hR
 | false=>
   have e:F5 a i=[]:=by unfold F5;rw [if_neg];rintro ⟨_,h⟩;rw [hv] at h;cases h
   refine B7 ?_
   simp only [AH,AP,AK,AM,AO,AE,AI,AR,AN,AL,AS,AJ,AT,AQ,BH,BL,BM,BN,BP,BO,BK,A5,A8,A4,A9,A6,A7]
   rw [←MG e] at hR
   exact BB (by omega) hR
theorem LC {L:List Int} {i:Nat} {z:Int} {a:List AG} {b c d:List T} {K:J2} (hb:P3 L) (hi:i≤L.length) (hl:(a.length:Int)≤1048576) (h: ∀v i' z', -1≤v→v≤7999→i'≤L.length→K [I v,iv i',I z'] []):cl2 ⟨Try.prog,w0⟩ 113 E9.sg [iv i,I z] [tY L,tR tO a,b,c,d] K:=by
 have hbd:=mR a
 refine E9.cl2 ?_
 unfold E9.txt
 refine K2 hl ?_
 simp only [AH,AP,AK,AM,AO,AE,AI,AR,AN,AL,AS,AJ,AT,AQ,BH,BL,BM,BN,BP,BO,BK,A5,A8,A4,A9,A6,A7]
 have pk6: ∀{i:Nat} {z:Int},i≤L.length→cl2 ⟨Try.prog,w0⟩ 140 BY.sg [iv i,I z] [tY L,[T.c (.int .i64 (-1)),T.c (.int .i64 0),T.c (.int .i64 8),T.c (.int .i64 9),T.c (.int .i64 17),T.c (.int .i64 4000)]] fun v7 d8=>K [nx v7 0,nx v7 1,nx v7 2] []:=fun hi=>by
  refine FD (l:=[-1,0,8,9,17,4000]) hb hi (by simp) fun v hv i' z' hi'=> ?_
  have: -1≤v∧v≤7999:=by simp at hv;omega
  exact h v i' z' this.1 this.2 hi'
 refine B2 (BT (tV (fun hne=> ?_) fun he=> ?_))
 ·refine LS hb hi fun b i' z' hi'=>EJ hne rfl (UR (fun _=>pk6 hi') fun _=> ?_)
  refine CF hb hi' fun x i2 z2 x0 x1 hi2=> ?_
  simp only [AH,AP,AK,AM,AO,AE,AI,AR,AN,AL,AS,AJ,AT,AQ,BH,BL,BM,BN,BP,BO,BK,A5,A8,A4,A9,A6,A7]
  have hx:x.toNat<(GF a).length:=by omega
  have:=hbd _ (C7 hx)
  exact SZ x0 (by omega) (ldI hx (h _ i2 z2 this.1 this.2 hi2))
 ·exact EI he rfl (CT (pk6 hi))
structure OpD (o:Op5):Prop where
 k:0≤o.kind∧o.kind≤11
 a: -1≤o.a∧o.a≤7999
 b: -1≤o.b∧o.b≤3
 c: -1≤o.c∧o.c≤7999
 s:o.site.size≤12
theorem OpD.f {o:Op5} (h:OpD o):OpF o:=⟨by have:=h.k;exact ⟨by omega,by omega⟩,by have:=h.a;exact ⟨by omega,by omega⟩,by have:=h.b;exact ⟨by omega,by omega⟩,by have:=h.c;exact ⟨by omega,by omega⟩,by have:=h.s;omega⟩
theorem bM {L:List Int} {i:Nat} {z:Int} {a:List AG} {b c d:List T} {K:J2} (hb:P3 L) (hi:i≤L.length) (hl:(a.length:Int)≤1048576) (h: ∀(o:Op5) i' z',OpD o→i'≤L.length→K [I o.kind,I o.a,I o.b,I o.c, .string o.site,iv i',I z'] []):cl2 ⟨Try.prog,w0⟩ 128 HI.sg [iv i,I z] [tY L,tR tO a,b,c,d] K:=by
 refine HI.cl2 ?_
 unfold HI.txt
 refine FD (l:=[1,1,1,2,3,3,3,4,4,4,4,5,6,7,8,9,10,4]) hb hi (by simp) fun kd hkd i1 z1 h1=> ?_
 have hkd:0≤kd∧kd≤11:=by simp at hkd;omega
 have nil:(⟨#[]⟩:ByteArray).size≤12:=Nat.zero_le _
 have hK: ∀(o:Op5) i' z' (y1 y2 y3 y4 y5:Value),OpD o→i'≤L.length→cl2 ⟨Try.prog,w0⟩ 112 BQ.sg [iv i',I z',I 50] [tY L] fun v34 d35=>
   prP (bnI .eql (nx v34 0) (.int .i64 0)) fun t49_36=>
   AW t49_36 (cl2 ⟨Try.prog,w0⟩ 140 BY.sg [nx v34 1,nx v34 2] [tY L,[T.c (.int .i64 0),T.c (.int .i64 11)]] fun v37 d38=>K [nx v37 0,I o.a,I o.b,I o.c, .string o.site,nx v37 1,nx v37 2] []) (
   prP (bnI .eql (nx v34 0) (.int .i64 1)) fun t55_39=>
   AW t55_39 (cl2 ⟨Try.prog,w0⟩ 140 BY.sg [nx v34 1,nx v34 2] [tY L,[T.c (.int .i64 (-1)),T.c (.int .i64 3)]] fun v40 d41=>K [I o.kind,I o.a,nx v40 0,I o.c, .string o.site,nx v40 1,nx v40 2] []) (
   prP (bnI .eql (nx v34 0) (.int .i64 2)) fun t61_42=>
   AW t61_42 (cl2 ⟨Try.prog,w0⟩ 139 DH.sg [nx v34 1,nx v34 2] [tY L,[T.c (.string {data:= #[]}),T.c (.string {data:= #[116,111,111,108,111,110,103,97,115,105,116,101]}),T.c (.string {data:= #[115,49]}),T.c (.string {data:= #[115,50]}),T.c (.string {data:= #[115,51]}),T.c (.string {data:= #[115,52]}),T.c (.string {data:= #[115,53]})]] fun v43 d44=>K [I o.kind,I o.a,I o.b,I o.c,nx v43 0,nx v43 1,nx v43 2] [])
    (K [I o.kind,I o.a,I o.b,I o.c, .string o.site,nx v34 1,nx v34 2] []))):=by
  intro o i' z' _ _ _ _ _ ho hi'
  refine CF hb hi' fun x i2 z2 x0 x1 h2=> ?_
  refine B2 (AX (fun _=> ?_) fun _=>B2 (AX (fun _=> ?_) fun _=>B2 (AX (fun _=> ?_) fun _=>h o i2 z2 ho h2)))
  ·refine FD (l:=[0,11]) hb h2 (by simp) fun v hv i3 z3 h3=> ?_
   exact h ⟨v,o.a,o.b,o.c,o.site⟩ i3 z3 ⟨by simp at hv;simp only;omega,ho.a,ho.b,ho.c,ho.s⟩ h3
  ·refine FD (l:=[-1,3]) hb h2 (by simp) fun v hv i3 z3 h3=> ?_
   exact h ⟨o.kind,o.a,v,o.c,o.site⟩ i3 z3 ⟨ho.k,ho.a,by simp at hv;simp only;omega,ho.c,ho.s⟩ h3
  ·refine LZ (l:=[⟨#[]⟩,⟨#[116,111,111,108,111,110,103,97,115,105,116,101]⟩,⟨#[115,49]⟩,⟨#[115,50]⟩,⟨#[115,51]⟩,⟨#[115,52]⟩,⟨#[115,53]⟩]) hb h2 (by simp) fun v hv i3 z3 h3=> ?_
   refine h ⟨o.kind,o.a,o.b,o.c,v⟩ i3 z3 ⟨ho.k,ho.a,ho.b,ho.c, ?_⟩ h3
   simp only [List.mem_cons,List.not_mem_nil,or_false] at hv
   rcases hv with rfl | rfl | rfl | rfl | rfl | rfl | rfl <;> (simp only;decide)
 refine BZ ?_
 refine B2 (AX (fun _=> ?_) fun _=>B2 (AX (fun _=> ?_) fun _=>BZ ?_))
 ·refine LZ (l:=[⟨#[97]⟩,⟨#[98]⟩,⟨#[108,105,115,116]⟩,⟨#[110,111,100,101]⟩]) hb h1 (by simp) fun v hv i3 z3 h3=>BZ ?_
  refine hK ⟨kd,0,0,0,v⟩ i3 z3 (I 0) (I 0) (I 0) (I 0) (I 0) ⟨hkd,by simp only;omega,by simp only;omega,by simp only;omega, ?_⟩ h3
  simp only [List.mem_cons,List.not_mem_nil,or_false] at hv
  rcases hv with rfl | rfl | rfl | rfl <;> (simp only;decide)
 ·refine LC hb h1 hl fun x i2 z2 x0 x1 h2=>CF hb h2 fun y i3 z3 y0 y1 h3=>LC hb h3 hl fun u i4 z4 u0 u1 h4=>LS hb h4 fun b i5 z5 h5=>UR (fun _=>BZ ?_) fun _=>BZ ?_
  ·exact hK ⟨kd,x,y, -1,⟨#[]⟩⟩ i5 z5 (I 0) (I 0) (I 0) (I 0) (I 0) ⟨hkd,⟨x0,x1⟩,by simp only;omega,by simp only;omega,nil⟩ h5
  ·exact hK ⟨kd,x,y,u,⟨#[]⟩⟩ i5 z5 (I 0) (I 0) (I 0) (I 0) (I 0) ⟨hkd,⟨x0,x1⟩,by simp only;omega,⟨u0,u1⟩,nil⟩ h5
 ·refine B2 (AX (fun e8=> ?_) fun n8=>B2 ?_)
  ·refine FM e8 (CF hb h1 fun x i2 z2 x0 x1 h2=>BZ ?_)
   exact hK ⟨kd,x,0,0,⟨#[]⟩⟩ i2 z2 (I 0) (I 0) (I 0) (I 0) (I 0) ⟨hkd,by simp only;omega,by simp only;omega,by simp only;omega,nil⟩ h2
  ·by_cases e9:kd=9
   ·refine FM e9 (CF hb h1 fun x i2 z2 x0 x1 h2=>BZ ?_)
    exact hK ⟨kd,x,0,0,⟨#[]⟩⟩ i2 z2 (I 0) (I 0) (I 0) (I 0) (I 0) ⟨hkd,by simp only;omega,by simp only;omega,by simp only;omega,nil⟩ h2
   ·refine FU e9 (B2 (AX (fun _=>BZ ?_) fun _=>LC hb h1 hl fun x i2 z2 x0 x1 h2=>BZ ?_))
    ·exact hK ⟨kd,0,0,0,⟨#[]⟩⟩ i1 z1 (I 0) (I 0) (I 0) (I 0) (I 0) ⟨hkd,by simp only;omega,by simp only;omega,by simp only;omega,nil⟩ h1
    ·exact hK ⟨kd,x,0,0,⟨#[]⟩⟩ i2 z2 (I 0) (I 0) (I 0) (I 0) (I 0) ⟨hkd,⟨x0,x1⟩,by simp only;omega,by simp only;omega,nil⟩ h2
theorem YB {L:List Int} {i m:Nat} {z:Int} {K:J2} (hb:P3 L) (hi:i≤L.length) (hm:m≤1000) (h: ∀(l:List Op5) i' z',l.length≤m→(∀o∈l,OpD o)→i'≤L.length→K [iv i',I z'] [tR tP l]):cl2 ⟨Try.prog,w0⟩ 108 GN.sg [iv i,I z,I m] [tY L] K:=by
 refine GN.cl2 ?_
 unfold GN.txt
 refine N5 (FI ⟨by omega,by omega⟩ (CF hb hi fun x i1 z1 x0 x1 h1=> ?_))
 obtain ⟨n,rfl⟩: ∃n:Nat,x=n:=⟨x.toNat,by omega⟩
 simp only [AH,AP,AK,AM,AO,AE,AI,AR,AN,AL,AS,AJ,AT,AQ,BH,BL,BM,BN,BP,BO,BK,A5,A8,A4,A9,A6,A7]
 refine FG (α:=Nat×Nat×Int×List Op5×Hp) (fun q=>[iv q.1,iv q.2.1,I q.2.2.1]) (fun q=>[tR tP q.2.2.2.1,tR tO q.2.2.2.2.AD,tR tW q.2.2.2.2.B1,tI q.2.2.2.2.buffer,tS q.2.2.2.2.sites]) (fun q=>q.1) (fun q=>q.1+q.2.2.2.1.length≤m∧q.2.1≤L.length∧(∀o∈q.2.2.2.1,OpD o)∧BW q.2.2.2.2) (n,i1,z1,[],hp0) rfl rfl ⟨by simp;omega,h1,by simp,lN⟩ (fun R q hq hR=> ?_)
 obtain ⟨n,i,z,l,hp⟩:=q
 obtain ⟨q1,q2,q3,q4⟩:=hq
 simp only at q1 q2 q3 q4
 have ol:=q4.ol
 simp only [AH,AP,AK,AM,AO,AE,AI,AR,AN,AL,AS,AJ,AT,AQ,BH,BL,BM,BN,BP,BO,BK,A5,A8,A4,A9,A6,A7]
 refine JM (AX (fun hgt=> ?_) fun hle=> ?_)
 ·have hgt:0<n:=by omega
  refine bM hb q2 (by omega) fun o i2 z2 ho h2=> ?_
  simp only [AH,AP,AK,AM,AO,AE,AI,AR,AN,AL,AS,AJ,AT,AQ,BH,BL,BM,BN,BP,BO,BK,A5,A8,A4,A9,A6,A7]
  refine RN q4.fits q4.KH ho.f.a ho.f.c ?_
  rw [UE q4]
  refine EH rfl (by first | omega | (simp only [AH,AP,AK,AM,AO,AE,AI,AR,AN,AL,AS,AJ,AT,AQ,BH,BL,BM,BN,BP,BO,BK,A5,A8,A4,A9,A6,A7];omega)) (H2 ⟨by omega,by omega⟩ ?_)
  have hR:=hR (n-1,i2,z2,l++[o],(EU hp o).1) ⟨by simp;omega,h2,fun x hx=> ?_,q4.step⟩ (by simp only;omega)
  ·rw [show (n:Int)-1=((n-1:Nat):Int) from by omega,pE]
   exact hR
  ·rcases List.mem_append.1 hx with hx | hx
   ·exact q3 x hx
   ·rw [List.mem_singleton.1 hx];exact ho
 ·exact h l i z (by omega) q3 q2
end Go.Proofs.Ytklmcfpgdfibnaa.P
