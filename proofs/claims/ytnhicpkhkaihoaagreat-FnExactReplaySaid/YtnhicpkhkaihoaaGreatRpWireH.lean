/- A part of the proof. -/
import Derived.Test.YtnhicpkhkaihoaaGreatRpWireG
namespace Go.Proofs.YtnhicpkhkaihoaaGreat.P
open Go Go.Proofs.YtnhicpkhkaihoaaGreat Go.Proofs.YtnhicpkhkaihoaaGreat.Eng
set_option maxHeartbeats 4000000
set_option linter.unusedVariables false
set_option linter.unusedSimpArgs false
attribute [local irreducible] prP gP gE gF AG ixW ldc ldg ldl stc stg scW mkW apW BA cl2 B6 G8 C3
variable {w0:World}
def QZ:Nat→ByteArray→Option (List Int×ByteArray)
 | 0,r=>some ([],r)
 | m+1,r=>(rdI r).bind fun p=>(QZ m p.2).bind fun q=>some (p.1::q.1,q.2)
theorem uP {r:ByteArray} (h:(ri r).2=0):rdI r=none:=by rw [rdI,if_pos h]
theorem vA {r:ByteArray} (h:(ri r).2≠0):rdI r=some ((ri r).1,dr r (ri r).2.toNat):=by rw [rdI,if_neg h]
structure L10 (s:ByteArray) (a0 n:Nat) (q:Nat×List Int×Nat):Prop where
 le:q.1≤n
 len:q.2.1.length=q.1
 at_:a0≤q.2.2
 sz:q.2.2≤s.size
 go:QZ n (dr s a0)=(QZ (n-q.1) (dr s q.2.2)).map fun p=>(q.2.1++p.1,p.2)
theorem O5 {s:ByteArray} {a0 n:Nat} {K:J2} (hs:(s.size:Int)<2^40) (ha:a0≤s.size) (hn:n≤8) (h1: ∀L a1,QZ n (dr s a0)=some (L,dr s a1)→a0≤a1→a1≤s.size→L.length=n→K [I a1] [tI L]) (h2: ∀L:List Int,QZ n (dr s a0)=none→L.length=n→K [I (-1)] [tI L]):cl2 ⟨Tryz.prog,w0⟩ 99 FH.sg [.string s,I a0,I n] [] K:=by
 refine FH.cl2 ?_
 unfold FH.txt
 refine C8 (α:=Nat×List Int×Nat) (fun q=>[.string s,iv q.2.2,I n,iv q.1]) (fun q=>[tI q.2.1]) (fun q=>n-q.1) (fun q=>L10 s a0 n q) (0,[],a0) rfl rfl ⟨Nat.zero_le _,rfl,Nat.le_refl _,ha,by simp⟩ (fun R q hq hR=> ?_)
 obtain ⟨i,L,a⟩:=q
 obtain ⟨le,len,at_,sz,go⟩:=hq
 simp only at le len at_ sz go
 simp only [AM,AT,AL,AK,AN,AE,AI,AV,AU,AS,AP,AQ,AO,AR,BD,BE,BH,BG,BJ,BL,BF,AZ,A6,A1,AY,A5,A4]
 have hb:=y2 (dr s a)
 rw [DY] at hb
 refine AJ (AH (fun hlt=> ?_) fun hge=> ?_)
 ·obtain ⟨m,hm⟩: ∃m,n-i=m+1:=⟨n-i-1,by omega⟩
  rw [hm,QZ] at go
  refine kI sz (aM (by rw [DY];omega) (BI (AH (fun h0=> ?_) fun h0=> ?_)))
  ·rw [uP h0] at go
   have go':QZ n (dr s a0)=none:=by rw [go];rfl
   have hz:RX (AA (iv n)) [T.c (.int .i64 0)]=tI (List.replicate n 0):=by rw [A9];simp [RX,tI]
   refine fW (n:=n) (by omega) ?_
   rw [hz]
   exact h2 _ go' (by simp)
  ·refine D8 rfl (by omega) (BX ⟨by omega,by omega⟩ (AX (by omega) ?_))
   have hd:dr (dr s a) (ri (dr s a)).2.toNat=dr s (a+(ri (dr s a)).2.toNat):=aE _ _ _ (by omega)
   have:=hR (i+1,L++[(ri (dr s a)).1],a+(ri (dr s a)).2.toNat) ⟨by simp only;omega,by simp [len],by simp only;omega,by simp only;omega, ?_⟩ (by simp only;omega)
   ·simp only at this
    rw [←FD] at this
    have e:(a:Int)+(ri (dr s a)).2=((a+(ri (dr s a)).2.toNat:Nat):Int):=by omega
    rw [e];exact this
   ·simp only
    have hm2:n-(i+1)=m:=by omega
    rw [hm2,go,vA h0,hd]
    simp only [Option.bind_some]
    cases QZ m (dr s (a+(ri (dr s a)).2.toNat)) with
    | none=>rfl
    | some q=>simp
 ·have:n-i=0:=by omega
  rw [this,QZ] at go
  exact h1 L a (by rw [go];simp) at_ sz (by omega)
theorem pR {β:Type} (f:List Int→Option β): ∀(m:Nat) (acc:List Int) (last:Int) (r:ByteArray),EL f m acc last r=match QZ m r with
  | none=>none
  | some q=>f (acc++(q.1.foldl (fun (p:List Int×Int) x=>(p.1++[w64 (p.2+x)],w64 (p.2+x))) ([],last)).1)
 | 0,acc,last,r=>by simp [EL,QZ]
 | m+1,acc,last,r=>by
   rw [EL,QZ]
   cases rdI r with
   | none=>rfl
   | some p=>
     simp only [Option.bind_some]
     rw [pR f m]
     cases QZ m p.2 with
     | none=>rfl
     | some q=>
       simp only [Option.bind_some,List.foldl_cons,List.nil_append]
       have shift: ∀(xs:List Int) (a b:List Int) (z:Int),(xs.foldl (fun (p:List Int×Int) x=>(p.1++[w64 (p.2+x)],w64 (p.2+x))) (a++b,z)).1=a++(xs.foldl (fun (p:List Int×Int) x=>(p.1++[w64 (p.2+x)],w64 (p.2+x))) (b,z)).1:=by
        intro xs
        induction xs with
        | nil=>intro a b z;rfl
        | cons x xs ih=>intro a b z;rw [List.foldl_cons,List.foldl_cons,List.append_assoc];exact ih _ _ _
       have:=shift q.1 [w64 (last+p.1)] [] (w64 (last+p.1))
       rw [List.append_nil] at this
       rw [this,List.append_assoc]
def SR (last:Int) (l:List Int):List Int×Int:=l.foldl (fun (p:List Int×Int) x=>(p.1++[w64 (p.2+x)],w64 (p.2+x))) ([],last)
theorem eY {last:Int} {l:List Int} {i:Nat} (hi:i<l.length):SR last (l.take (i+1))=((SR last (l.take i)).1++[w64 ((SR last (l.take i)).2+l[i])],w64 ((SR last (l.take i)).2+l[i])):=by
 rw [SR,List.take_succ_eq_append_getElem hi,List.foldl_append];rfl
theorem lQ (last:Int) (l:List Int): ∀i,i≤l.length→(SR last (l.take i)).1.length=i
 | 0,_=>rfl
 | i+1,hi=>by rw [eY (by omega)];simp [lQ last l i (by omega)]
def RJ (l:List ByteArray) (r:ByteArray):Option (ByteArray×ByteArray):=(rdN r).bind fun p=>if p.1=0 then rdT p.2 else if p.1≤l.length then some (gS l (p.1-1).toNat,p.2) else none
theorem yD (l:List ByteArray) (kind a b c:Int) (r:ByteArray):E4 l kind a b c r=(RJ l r).bind fun q=>E6 ⟨kind,a,b,c,q.1⟩ q.2:=by
 rw [E4,RJ]
 cases rdN r with
 | none=>rfl
 | some p=>
   simp only [Option.bind_some,E5]
   split
   ·rfl
   ·split <;> rfl
theorem qP (last:Int) (l:List ByteArray) (s:ByteArray):E0 last l s=(QZ 4 s).bind fun q=>E4 l (gI q.1 0) (w64 (last+gI q.1 1)) (gI q.1 2) (w64 (w64 (last+gI q.1 1)+gI q.1 3)) q.2:=by
 rw [E0]
 simp only [QZ,E1,E2,E3]
 cases rdI s with
 | none=>rfl
 | some p0=>
   simp only [Option.bind_some]
   cases rdI p0.2 with
   | none=>rfl
   | some p1=>
     simp only [Option.bind_some]
     cases rdI p1.2 with
     | none=>rfl
     | some p2=>
       simp only [Option.bind_some]
       cases rdI p2.2 with
       | none=>rfl
       | some p3=>rfl
theorem pD (o:Op5) (code:Int) (r:ByteArray):E7 o code r=(QZ 1 r).bind fun q=>E8 o code (w64 (o.a+gI q.1 0)) q.2:=by
 rw [E7]
 simp only [QZ]
 cases rdI r with
 | none=>rfl
 | some p=>rfl
theorem yO (o:Op5) (code val:Int) (r:ByteArray):E8 o code val r=(rdN r).bind fun p=>if p.1>8 then none else (QZ p.1.toNat p.2).bind fun q=>some (o,⟨code,val,(SR o.a q.1).1⟩):=by
 rw [E8]
 congr 1
 funext p
 split
 ·rfl
 ·rw [pR]
  cases QZ p.1.toNat p.2 with
  | none=>rfl
  | some q=>simp [SR]
theorem VB {r:ByteArray} (h:(rv r).2=0):rdN r=none:=by rw [rdN,if_pos h]
theorem QP {r:ByteArray} (h:(rv r).2≠0):rdN r=some ((rv r).1,dr r (rv r).2.toNat):=by rw [rdN,if_neg h]
theorem wI {r:ByteArray} (h:(rt r).2=0):rdT r=none:=by rw [rdT,if_pos h]
theorem sP {r:ByteArray} (h:(rt r).2≠0):rdT r=some ((rt r).1,dr r (rt r).2.toNat):=by rw [rdT,if_neg h]
attribute [irreducible] QZ RJ
theorem cR {s:ByteArray} {a:Nat} {n:Value} {l:List ByteArray} {K:J2} (hl:l.length<2^40) (hs:(s.size:Int)<2^40) (ha:a≤s.size) (h1: ∀nm a1,RJ l (dr s a)=some (nm,dr s a1)→a≤a1→a1≤s.size→K [.string nm,I a1] []) (h2:RJ l (dr s a)=none→K [.string ⟨#[]⟩,I (-1)] []):cl2 ⟨Tryz.prog,w0⟩ 100 HJ.sg [n, .string s,I a] [tS l] K:=by
 refine HJ.cl2 ?_
 unfold HJ.txt
 simp only [AM,AT,AL,AK,AN,AE,AI,AV,AU,AS,AP,AQ,AO,AR,BD,BE,BH,BG,BJ,BL,BF,AZ,A6,A1,AY,A5,A4]
 have hb:=PA (dr s a)
 rw [DY] at hb
 refine kI ha (ID (by rw [DY];omega) ?_)
 have KJ:((rv (dr s a)).2=0∨(rv (dr s a)).1>l.length)→K [.string ⟨#[]⟩,I (-1)] []:=fun hh=>h2 (by
  rw [RJ]
  by_cases h0:(rv (dr s a)).2=0
  ·rw [VB h0];rfl
  ·rw [QP h0]
   simp only [Option.bind_some]
   rw [if_neg (by omega),if_neg (by omega)])
 repeat' (first | exact KJ (by omega) | refine BM ?_ | refine CL (by first | with_reducible assumption | omega) rfl ?_ | refine CJ (by first | with_reducible assumption | omega) rfl ?_ | refine BS ?_ | refine AJ ?_ | refine BI ?_ | refine BX ⟨by omega,by omega⟩ ?_ | refine UE (by omega) (by omega) ?_ | refine ldS (by omega) ?_ | refine AH (fun _=> ?_) (fun _=> ?_) | refine HC (fun _=> ?_) (fun _=> ?_) | simp only [AM,AT,AL,AK,AN,AE,AI,AV,AU,AS,AP,AQ,AO,AR,BD,BE,BH,BG,BJ,BL,BF,AZ,A6,A1,AY,A5,A4])
 ·rename_i g0 g1 g2
  have hd:dr (dr s a) (rv (dr s a)).2.toNat=dr s (a+(rv (dr s a)).2.toNat):=aE _ _ _ (by omega)
  have:=h1 (gS l ((rv (dr s a)).1-1).toNat) (a+(rv (dr s a)).2.toNat) (by rw [RJ,QP g0];simp only [Option.bind_some];rw [if_neg (by omega),if_pos (by omega),hd]) (by omega) (by omega)
  have e:(a:Int)+(rv (dr s a)).2=((a+(rv (dr s a)).2.toNat:Nat):Int):=by omega
  rw [e];exact this
 ·rename_i g0 g1 g2
  have hd:dr (dr s a) (rv (dr s a)).2.toNat=dr s (a+(rv (dr s a)).2.toNat):=aE _ _ _ (by omega)
  have e:(a:Int)+(rv (dr s a)).2=((a+(rv (dr s a)).2.toNat:Nat):Int):=by omega
  rw [e]
  have hn:RJ l (dr s a)=rdT (dr s (a+(rv (dr s a)).2.toNat)):=by
   rw [RJ,QP g0];simp only [Option.bind_some];rw [if_pos (by omega),hd]
  have ht:=zG (dr s (a+(rv (dr s a)).2.toNat))
  rw [DY] at ht
  refine kI (by omega) (YL (by rw [DY];omega) (BI (AH (fun t0=> ?_) fun t0=> ?_)))
  ·exact h2 (by rw [hn,wI t0])
  ·have hd2:=aE s (a+(rv (dr s a)).2.toNat) (rt (dr s (a+(rv (dr s a)).2.toNat))).2.toNat (by omega)
   have:=h1 _ _ (by rw [hn,sP t0,hd2]) (by omega) (by omega)
   refine BX ⟨by omega,by omega⟩ (BX ⟨by omega,by omega⟩ ?_)
   have e2:(a:Int)+(rv (dr s a)).2+(rt (dr s (a+(rv (dr s a)).2.toNat))).2=((a+(rv (dr s a)).2.toNat+(rt (dr s (a+(rv (dr s a)).2.toNat))).2.toNat:Nat):Int):=by omega
   rw [e2];exact this
theorem aF {l:List Int} {i:Nat} {K:Value→Prop} (hi:i<l.length) (h:K (I (gI l i))):ixW l.length (I (i:Int)) fun t=>ldc (tI l) [] (AA t*1) K:=AW hi (ldI hi h)
theorem W5 {n:Int} {l:List ByteArray} {s:ByteArray} {K:J2} (hl:l.length<2^40) (hs:(s.size:Int)<2^40)
  (h:K [I (CI n l s).o.kind,I (CI n l s).o.a,I (CI n l s).o.b,I (CI n l s).o.c, .string (CI n l s).o.site,I (CI n l s).a.code,I (CI n l s).a.val,I (CI n l s).last, .bool (CI n l s).ok] [tI (CI n l s).a.freed,tS (CI n l s).sites]):
  cl2 ⟨Tryz.prog,w0⟩ 51 FQ.sg [I n, .string s] [tS l] K:=by
 refine FQ.cl2 ?_
 unfold FQ.txt
 simp only [AM,AT,AL,AK,AN,AE,AI,AV,AU,AS,AP,AQ,AO,AR,BD,BE,BH,BG,BJ,BL,BF,AZ,A6,A1,AY,A5,A4]
 have fail:E0 n l s=none→K [I 0,I 0,I 0,I 0, .string ⟨#[]⟩,I 0,I 0,I n, .bool false] [[],[]++tS l]:=fun hx=>by
  have:CI n l s=⟨⟨0,0,0,0,⟨#[]⟩⟩,⟨0,0,[]⟩,n,l,false⟩:=by rw [CI,hx]
  rw [this] at h;exact h
 refine D8 (RM l) (by omega) ?_
 refine O5 (a0:=0) (n:=4) hs (Nat.zero_le _) (by omega) (fun L a1 hL _ g1 hLl=> ?_) fun L hL _=> ?_
 rotate_left
 ·refine AJ (CT (by omega) (fail ?_))
  rw [Bp] at hL
  rw [qP,hL];rfl
 rw [Bp] at hL
 simp only [AM,AT,AL,AK,AN,AE,AI,AV,AU,AS,AP,AQ,AO,AR,BD,BE,BH,BG,BJ,BL,BF,AZ,A6,A1,AY,A5,A4]
 refine AJ (BV (by omega) ?_)
 refine aF (i:=0) (by omega) (aF (i:=1) (by omega) (E9 (aF (i:=2) (by omega) (aF (i:=3) (by omega) (E9 ?_)))))
 have hX:=qP n l s
 rw [hL] at hX
 simp only [Option.bind_some] at hX
 have c1:w64 (gI L 1+n)=w64 (n+gI L 1):=by rw [Int.add_comm]
 rw [c1]
 generalize w64 (n+gI L 1)=A at hX ⊢
 have c2:w64 (gI L 3+A)=w64 (A+gI L 3):=by rw [Int.add_comm]
 rw [c2]
 generalize w64 (A+gI L 3)=Cc at hX ⊢
 generalize gI L 0=Kd at hX ⊢
 generalize gI L 2=B at hX ⊢
 rw [yD] at hX
 refine cR hl hs g1 (fun nm a2 hN _ g2=> ?_) fun hN=> ?_
 rotate_left
 ·refine AJ (CT (by omega) (fail ?_))
  rw [hX,hN];rfl
 rw [hN] at hX
 simp only [Option.bind_some] at hX
 refine AJ (BV (by omega) ?_)
 have hb:=PA (dr s a2)
 rw [DY] at hb
 refine kI g2 (ID (by rw [DY];omega) (BX ⟨by omega,by omega⟩ ?_))
 have e3:(a2:Int)+(rv (dr s a2)).2=((a2+(rv (dr s a2)).2.toNat:Nat):Int):=by omega
 simp only [BD,BE]
 rw [e3]
 have hd3:dr (dr s a2) (rv (dr s a2)).2.toNat=dr s (a2+(rv (dr s a2)).2.toNat):=aE _ _ _ (by omega)
 refine O5 (n:=1) hs (by omega) (by omega) (fun W a3 hW _ g3 hWl=> ?_) fun W hW _=> ?_
 rotate_left
 ·refine BI (BM (HC (fun h0=>AJ (CJ h0 rfl (CT (by omega) (fail ?_)))) fun h0=>CL h0 rfl (BS (fail ?_))))
  ·rw [hX,E6,QP h0]
   simp only [Option.bind_some]
   rw [hd3,pD,hW];rfl
  ·rw [hX,E6,VB h0];rfl
 refine BI (BM (HC (fun h0=>AJ (CJ h0 rfl (BV (by omega) ?_))) fun h0=>CL h0 rfl (BS (fail ?_))))
 rotate_left
 ·rw [hX,E6,VB h0];rfl
 rw [E6,QP h0] at hX
 simp only [Option.bind_some] at hX
 rw [hd3,pD,hW] at hX
 simp only [Option.bind_some] at hX
 have hb4:=PA (dr s a3)
 rw [DY] at hb4
 refine kI g3 (ID (by rw [DY];omega) ?_)
 rw [yO] at hX
 refine BI (BM (HC (fun h4=>G9 ?_) fun h4=>CL h4 rfl (BS (fail ?_))))
 rotate_left
 ·rw [hX,VB h4];rfl
 rw [QP h4] at hX
 simp only [Option.bind_some] at hX
 refine CJ h4 rfl (AH (fun h8=>fail ?_) fun h8=> ?_)
 ·rw [hX,if_pos h8]
 rw [if_neg h8] at hX
 simp only [AM,AT,AL,AK,AN,AE,AI,AV,AU,AS,AP,AQ,AO,AR,BD,BE,BH,BG,BJ,BL,BF,AZ,A6,A1,AY,A5,A4]
 refine aF (l:=W) (i:=0) (by omega) (E9 ?_)
 have c5:w64 (gI W 0+A)=w64 (A+gI W 0):=by rw [Int.add_comm]
 rw [c5]
 generalize w64 (A+gI W 0)=Vv at hX ⊢
 have hd5:dr (dr s a3) (rv (dr s a3)).2.toNat=dr s (a3+(rv (dr s a3)).2.toNat):=aE _ _ _ (by omega)
 rw [hd5] at hX
 have e5:(a3:Int)+(rv (dr s a3)).2=((a3+(rv (dr s a3)).2.toNat:Nat):Int):=by omega
 obtain ⟨m,hm⟩: ∃m:Nat,(rv (dr s a3)).1=m:=⟨(rv (dr s a3)).1.toNat,by omega⟩
 refine BX ⟨by omega,by omega⟩ ?_
 rw [e5,hm]
 rw [hm,Int.toNat_natCast] at hX
 have rest: ∀(F:List Int) (en:Int),F.length=m→(en<0→E0 n l s=none)→(0≤en→E0 n l s=some (⟨Kd,A,B,Cc,nm⟩,⟨(rv (dr s a2)).1,Vv,(SR A F).1⟩))→
   BA (fun r40 x38 k39=>(prP (bnI .lss (nx x38 3) (iv (cnt 1 (nxc k39 0)))) fun t139_55=>AG t139_55 (ixW (cnt 1 (nxc k39 0)) (nx x38 3) fun t145_56=>ldc (nxc k39 0) [] ((AA t145_56)*1) fun t146_57=>prP (bnI .add (nx x38 2) t146_57) fun t147_58=>apW [T.c t147_58] true (cnt 1 (nxc k39 2)) (cnt 1 [T.c t147_58]) 8 (prP (bnI .add (nx x38 3) (.int .i64 1)) fun t141_59=>r40 [(nx x38 0),(nx x38 1),t147_58,t141_59,(nx x38 4),(nx x38 5),(nx x38 6),(nx x38 7),(nx x38 8),(nx x38 9),(nx x38 10),(nx x38 11),(nx x38 12),(nx x38 13),(nx x38 14),(nx x38 15),(nx x38 16),(nx x38 17),(nx x38 18),(nx x38 19),(nx x38 20)] [(nxc k39 0),(nxc k39 1),((nxc k39 2)++[T.c t147_58])])) (
    cl2 ⟨Tryz.prog,w0⟩ 74 EH.sg [(nx x38 4),(nx x38 14),(nx x38 15),(nx x38 16),(nx x38 17),(nx x38 18),(nx x38 19),(nx x38 20)] [tS l,(nxc k39 2)] fun v60 d61=>prP (bnI .lss (nx x38 1) (.int .i64 0)) fun t162_62=>gE t162_62 (gE t162_62 (gP t162_62 false (prP (bnS .neq (nx v60 0) (nx x38 0))) fun t166_63=>prP (pk t162_62 (.bool true) t166_63) fun t167_64=>gE t167_64 (gP t167_64 false (prP (bnS .eql (nx x38 0) (.string {data:= #[]}))) fun t170_65=>prP (pk t167_64 (.bool true) t170_65) fun t171_66=>AG t171_66 (
     K [(.int .i64 0),(.int .i64 0),(.int .i64 0),(.int .i64 0),(.string {data:= #[]}),(.int .i64 0),(.int .i64 0),(nx x38 13),(.bool false)] [[],(nxc k39 1)]) (
     K [(nx x38 14),(nx x38 15),(nx x38 16),(nx x38 17),(nx x38 18),(nx x38 19),(nx x38 20),(nx v60 1),(.bool true)] [(nxc k39 2),(nxc d61 0)]))))))) [.string s,I en,I A,I 0,I n,I 0,I 0,I 0,I 0, .string {data:= #[]},I 0,I 0,I 0,I n,I Kd,I A,I B,I Cc, .string nm,I (rv (dr s a2)).1,I Vv] [tI F,([]++tS l),[]]:=fun F en hF hne hpe=>by
  refine A7 (fun i=>[.string s,I en,I (SR A (F.take i)).2,iv i,I n,I 0,I 0,I 0,I 0, .string {data:= #[]},I 0,I 0,I 0,I n,I Kd,I A,I B,I Cc, .string nm,I (rv (dr s a2)).1,I Vv]) (fun i=>[tI F,([]++tS l),tI (SR A (F.take i)).1]) F.length (fun _=>True) rfl rfl trivial (fun R i hi _ hR=> ?_)
  have hsl:=lQ A F i hi
  simp only [AM,AT,AL,AK,AN,AE,AI,AV,AU,AS,AP,AQ,AO,AR,BD,BE,BH,BG,BJ,BL,BF,AZ,A6,A1,AY,A5,A4]
  refine AJ (AH (fun hlt=> ?_) fun hge=> ?_)
  ·have hlt:i<F.length:=by omega
   have:=hR hlt trivial
   rw [eY hlt] at this
   simp only at this
   rw [←FD,G7 hlt] at this
   exact AW hlt (ldI hlt (E9 (D8 rfl (by omega) (AX (by omega) this))))
  ·have:i=F.length:=by omega
   subst this
   rw [List.take_length] at hsl ⊢
   refine XO hl (by omega) ?_
   have hsh:NM n l Kd A B Cc nm (rv (dr s a2)).1 Vv (SR A F).1=IB n l ⟨Kd,A,B,Cc,nm⟩ ⟨(rv (dr s a2)).1,Vv,(SR A F).1⟩:=by rw [IB]
   rw [hsh]
   have bad:(en<0∨(IB n l ⟨Kd,A,B,Cc,nm⟩ ⟨(rv (dr s a2)).1,Vv,(SR A F).1⟩).1≠s∨s=⟨#[]⟩)→K [I 0,I 0,I 0,I 0, .string ⟨#[]⟩,I 0,I 0,I n, .bool false] [[],[]++tS l]:=fun hh=>by
    rcases Int.lt_or_le en 0 with h1 | h1
    ·exact fail (hne h1)
    ·have:CI n l s=⟨⟨0,0,0,0,⟨#[]⟩⟩,⟨0,0,[]⟩,n,l,false⟩:=by
      rw [CI,hpe h1]
      simp only
      rw [if_neg]
      rintro ⟨q1,q2⟩
      rcases hh with hh | hh | hh
      ·omega
      ·exact hh q2
      ·exact q1 (q2.trans hh)
     rw [this] at h;exact h
   repeat' (first | exact bad (.inl (by with_reducible assumption)) | exact bad (.inr (.inl (by with_reducible assumption))) | exact bad (.inr (.inr (by with_reducible assumption))) | refine BM ?_ | refine NB ?_ | refine CL (by first | with_reducible assumption | omega) rfl ?_ | refine CJ (by first | with_reducible assumption | omega) rfl ?_ | refine RW rfl ?_ | refine BS ?_ | refine AJ ?_ | refine KN ?_ | refine MH ?_ | refine AH (fun _=> ?_) (fun _=> ?_) | refine HC (fun _=> ?_) (fun _=> ?_) | simp only [AM,AT,AL,AK,AN,AE,AI,AV,AU,AS,AP,AQ,AO,AR,BD,BE,BH,BG,BJ,BL,BF,AZ,A6,A1,AY,A5,A4])
   rename_i q1 q2 q3
   have:CI n l s=⟨⟨Kd,A,B,Cc,nm⟩,⟨(rv (dr s a2)).1,Vv,(SR A F).1⟩,(IB n l ⟨Kd,A,B,Cc,nm⟩ ⟨(rv (dr s a2)).1,Vv,(SR A F).1⟩).2.1,(IB n l ⟨Kd,A,B,Cc,nm⟩ ⟨(rv (dr s a2)).1,Vv,(SR A F).1⟩).2.2,true⟩:=by
    rw [CI,hpe (by omega)]
    simp only
    have q2':=Decidable.not_not.1 q2
    rw [if_pos ⟨fun hh=>q3 (q2'.symm.trans hh),q2'⟩]
   rw [this] at h;exact h
 refine O5 (n:=m) hs (by omega) (by omega) (fun F a6 hF _ g6 hFl=> ?_) fun F hF hFl=> ?_
 ·exact rest F a6 hFl (fun hh=>by omega) fun _=>by rw [hX,hF];rfl
 ·exact rest F (-1) hFl (fun _=>by rw [hX,hF];rfl) fun hh=>by omega
end Go.Proofs.YtnhicpkhkaihoaaGreat.P
