/- A part of the proof. -/
import Derived.Test.YtnhicpkhkaihoaaGreatFaWireG
namespace Go.Proofs.YtnhicpkhkaihoaaGreat.P
open Go Go.Proofs.YtnhicpkhkaihoaaGreat Go.Proofs.YtnhicpkhkaihoaaGreat.Eng
set_option maxHeartbeats 4000000
set_option linter.unusedVariables false
set_option linter.unusedSimpArgs false
attribute [local irreducible] prP gP gE gF AU ixW ldc ldg ldl stc stg scW mkW apW BG cl2 BX GP CZ
variable {w0:World}
def QW:Nat→ByteArray→Option (List Int×ByteArray)
 | 0,r=>some ([],r)
 | m+1,r=>(rdI r).bind fun p=>(QW m p.2).bind fun q=>some (p.1::q.1,q.2)
theorem uG {r:ByteArray} (h:(ri r).2=0):rdI r=none:=by rw [rdI,if_pos h]
theorem xA {r:ByteArray} (h:(ri r).2≠0):rdI r=some ((ri r).1,dr r (ri r).2.toNat):=by rw [rdI,if_neg h]
structure L10 (s:ByteArray) (a0 n:Nat) (q:Nat×List Int×Nat):Prop where
 le:q.1≤n
 len:q.2.1.length=q.1
 at_:a0≤q.2.2
 sz:q.2.2≤s.size
 go:QW n (dr s a0)=(QW (n-q.1) (dr s q.2.2)).map fun p=>(q.2.1++p.1,p.2)
theorem O5 {s:ByteArray} {a0 n:Nat} {K:J2} (hs:(s.size:Int)<2^40) (ha:a0≤s.size) (hn:n≤8) (h1: ∀L a1,QW n (dr s a0)=some (L,dr s a1)→a0≤a1→a1≤s.size→L.length=n→K [I a1] [tI L]) (h2: ∀L:List Int,QW n (dr s a0)=none→L.length=n→K [I (-1)] [tI L]):cl2 ⟨Tryz.prog,w0⟩ 99 FU.sg [.string s,I a0,I n] [] K:=by
 refine FU.cl2 ?_
 unfold FU.txt
 refine CQ (α:=Nat×List Int×Nat) (fun q=>[.string s,iv q.2.2,I n,iv q.1]) (fun q=>[tI q.2.1]) (fun q=>n-q.1) (fun q=>L10 s a0 n q) (0,[],a0) rfl rfl ⟨Nat.zero_le _,rfl,Nat.le_refl _,ha,by simp⟩ (fun R q hq hR=> ?_)
 obtain ⟨i,L,a⟩:=q
 obtain ⟨le,len,at_,sz,go⟩:=hq
 simp only at le len at_ sz go
 simp only [AK,AS,AJ,AI,AM,AE,AH,AN,AO,AP,AL,AR,AT,AQ,BB,BE,BI,BH,BK,BJ,BF,AX,A4,AY,A1,AZ,A5]
 have hb:=As (dr s a)
 rw [C2] at hb
 refine AV (AG (fun hlt=> ?_) fun hge=> ?_)
 ·obtain ⟨m,hm⟩: ∃m,n-i=m+1:=⟨n-i-1,by omega⟩
  rw [hm,QW] at go
  refine kT sz (bX (by rw [C2];omega) (BA (AG (fun h0=> ?_) fun h0=> ?_)))
  ·rw [uG h0] at go
   have go':QW n (dr s a0)=none:=by rw [go];rfl
   have hz:RU (AA (iv n)) [T.c (.int .i64 0)]=tI (List.replicate n 0):=by rw [A8];simp [RU,tI]
   refine gX (n:=n) (by omega) ?_
   rw [hz]
   exact h2 _ go' (by simp)
  ·refine DP rfl (by omega) (B3 ⟨by omega,by omega⟩ (A6 (by omega) ?_))
   have hd:dr (dr s a) (ri (dr s a)).2.toNat=dr s (a+(ri (dr s a)).2.toNat):=ZA _ _ _ (by omega)
   have:=hR (i+1,L++[(ri (dr s a)).1],a+(ri (dr s a)).2.toNat) ⟨by simp only;omega,by simp [len],by simp only;omega,by simp only;omega, ?_⟩ (by simp only;omega)
   ·simp only at this
    rw [←E9] at this
    have e:(a:Int)+(ri (dr s a)).2=((a+(ri (dr s a)).2.toNat:Nat):Int):=by omega
    rw [e];exact this
   ·simp only
    have hm2:n-(i+1)=m:=by omega
    rw [hm2,go,xA h0,hd]
    simp only [Option.bind_some]
    cases QW m (dr s (a+(ri (dr s a)).2.toNat)) with
    | none=>rfl
    | some q=>simp
 ·have:n-i=0:=by omega
  rw [this,QW] at go
  exact h1 L a (by rw [go];simp) at_ sz (by omega)
theorem pJ {β:Type} (f:List Int→Option β): ∀(m:Nat) (acc:List Int) (last:Int) (r:ByteArray),EL f m acc last r=match QW m r with
  | none=>none
  | some q=>f (acc++(q.1.foldl (fun (p:List Int×Int) x=>(p.1++[w64 (p.2+x)],w64 (p.2+x))) ([],last)).1)
 | 0,acc,last,r=>by simp [EL,QW]
 | m+1,acc,last,r=>by
   rw [EL,QW]
   cases rdI r with
   | none=>rfl
   | some p=>
     simp only [Option.bind_some]
     rw [pJ f m]
     cases QW m p.2 with
     | none=>rfl
     | some q=>
       simp only [Option.bind_some,List.foldl_cons,List.nil_append]
       have shift: ∀(xs:List Int) (a b:List Int) (z:Int),(xs.foldl (fun (p:List Int×Int) x=>(p.1++[w64 (p.2+x)],w64 (p.2+x))) (a++b,z)).1=a++(xs.foldl (fun (p:List Int×Int) x=>(p.1++[w64 (p.2+x)],w64 (p.2+x))) (b,z)).1:=by
        intro xs
        induction xs with
        | nil=>intro a b z;rfl
        | cons x xs ih=>intro a b z;rw [List.foldl_cons,List.foldl_cons,List.append_assoc];exact ih _ _ _
       have:=shift q.1 [w64 (last+p.1)] [] (w64 (last+p.1))
       rw [List.append_nil] at this
       rw [this,List.append_assoc]
def TC (last:Int) (l:List Int):List Int×Int:=l.foldl (fun (p:List Int×Int) x=>(p.1++[w64 (p.2+x)],w64 (p.2+x))) ([],last)
theorem dX {last:Int} {l:List Int} {i:Nat} (hi:i<l.length):TC last (l.take (i+1))=((TC last (l.take i)).1++[w64 ((TC last (l.take i)).2+l[i])],w64 ((TC last (l.take i)).2+l[i])):=by
 rw [TC,List.take_succ_eq_append_getElem hi,List.foldl_append];rfl
theorem kI (last:Int) (l:List Int): ∀i,i≤l.length→(TC last (l.take i)).1.length=i
 | 0,_=>rfl
 | i+1,hi=>by rw [dX (by omega)];simp [kI last l i (by omega)]
def RH (l:List ByteArray) (r:ByteArray):Option (ByteArray×ByteArray):=(rdN r).bind fun p=>if p.1=0 then rdT p.2 else if p.1≤l.length then some (gS l (p.1-1).toNat,p.2) else none
theorem xJ (l:List ByteArray) (kind a b c:Int) (r:ByteArray):E4 l kind a b c r=(RH l r).bind fun q=>E6 ⟨kind,a,b,c,q.1⟩ q.2:=by
 rw [E4,RH]
 cases rdN r with
 | none=>rfl
 | some p=>
   simp only [Option.bind_some,E5]
   split
   ·rfl
   ·split <;> rfl
theorem pW (last:Int) (l:List ByteArray) (s:ByteArray):E0 last l s=(QW 4 s).bind fun q=>E4 l (gI q.1 0) (w64 (last+gI q.1 1)) (gI q.1 2) (w64 (w64 (last+gI q.1 1)+gI q.1 3)) q.2:=by
 rw [E0]
 simp only [QW,E1,E2,E3]
 cases rdI s with
 | none=>rfl
 | some p0=>
   simp only [Option.bind_some]
   cases rdI p0.2 with
   | none=>rfl
   | some p1=>
     simp only [Option.bind_some]
     cases rdI p1.2 with
     | none=>rfl
     | some p2=>
       simp only [Option.bind_some]
       cases rdI p2.2 with
       | none=>rfl
       | some p3=>rfl
theorem oV (o:Op5) (code:Int) (r:ByteArray):E7 o code r=(QW 1 r).bind fun q=>E8 o code (w64 (o.a+gI q.1 0)) q.2:=by
 rw [E7]
 simp only [QW]
 cases rdI r with
 | none=>rfl
 | some p=>rfl
theorem yR (o:Op5) (code val:Int) (r:ByteArray):E8 o code val r=(rdN r).bind fun p=>if p.1>8 then none else (QW p.1.toNat p.2).bind fun q=>some (o,⟨code,val,(TC o.a q.1).1⟩):=by
 rw [E8]
 congr 1
 funext p
 split
 ·rfl
 ·rw [pJ]
  cases QW p.1.toNat p.2 with
  | none=>rfl
  | some q=>simp [TC]
theorem WO {r:ByteArray} (h:(rv r).2=0):rdN r=none:=by rw [rdN,if_pos h]
theorem P8 {r:ByteArray} (h:(rv r).2≠0):rdN r=some ((rv r).1,dr r (rv r).2.toNat):=by rw [rdN,if_neg h]
theorem vF {r:ByteArray} (h:(rt r).2=0):rdT r=none:=by rw [rdT,if_pos h]
theorem tQ {r:ByteArray} (h:(rt r).2≠0):rdT r=some ((rt r).1,dr r (rt r).2.toNat):=by rw [rdT,if_neg h]
attribute [irreducible] QW RH
theorem bB {s:ByteArray} {a:Nat} {n:Value} {l:List ByteArray} {K:J2} (hl:l.length<2^40) (hs:(s.size:Int)<2^40) (ha:a≤s.size) (h1: ∀nm a1,RH l (dr s a)=some (nm,dr s a1)→a≤a1→a1≤s.size→K [.string nm,I a1] []) (h2:RH l (dr s a)=none→K [.string ⟨#[]⟩,I (-1)] []):cl2 ⟨Tryz.prog,w0⟩ 100 HM.sg [n, .string s,I a] [tS l] K:=by
 refine HM.cl2 ?_
 unfold HM.txt
 simp only [AK,AS,AJ,AI,AM,AE,AH,AN,AO,AP,AL,AR,AT,AQ,BB,BE,BI,BH,BK,BJ,BF,AX,A4,AY,A1,AZ,A5]
 have hb:=NW (dr s a)
 rw [C2] at hb
 refine kT ha (ID (by rw [C2];omega) ?_)
 have KD:((rv (dr s a)).2=0∨(rv (dr s a)).1>l.length)→K [.string ⟨#[]⟩,I (-1)] []:=fun hh=>h2 (by
  rw [RH]
  by_cases h0:(rv (dr s a)).2=0
  ·rw [WO h0];rfl
  ·rw [P8 h0]
   simp only [Option.bind_some]
   rw [if_neg (by omega),if_neg (by omega)])
 repeat' (first | exact KD (by omega) | refine BM ?_ | refine CI (by first | with_reducible assumption | omega) rfl ?_ | refine CD (by first | with_reducible assumption | omega) rfl ?_ | refine BP ?_ | refine AV ?_ | refine BA ?_ | refine B3 ⟨by omega,by omega⟩ ?_ | refine QU (by omega) (by omega) ?_ | refine ldS (by omega) ?_ | refine AG (fun _=> ?_) (fun _=> ?_) | refine F5 (fun _=> ?_) (fun _=> ?_) | simp only [AK,AS,AJ,AI,AM,AE,AH,AN,AO,AP,AL,AR,AT,AQ,BB,BE,BI,BH,BK,BJ,BF,AX,A4,AY,A1,AZ,A5])
 ·rename_i g0 g1 g2
  have hd:dr (dr s a) (rv (dr s a)).2.toNat=dr s (a+(rv (dr s a)).2.toNat):=ZA _ _ _ (by omega)
  have:=h1 (gS l ((rv (dr s a)).1-1).toNat) (a+(rv (dr s a)).2.toNat) (by rw [RH,P8 g0];simp only [Option.bind_some];rw [if_neg (by omega),if_pos (by omega),hd]) (by omega) (by omega)
  have e:(a:Int)+(rv (dr s a)).2=((a+(rv (dr s a)).2.toNat:Nat):Int):=by omega
  rw [e];exact this
 ·rename_i g0 g1 g2
  have hd:dr (dr s a) (rv (dr s a)).2.toNat=dr s (a+(rv (dr s a)).2.toNat):=ZA _ _ _ (by omega)
  have e:(a:Int)+(rv (dr s a)).2=((a+(rv (dr s a)).2.toNat:Nat):Int):=by omega
  rw [e]
  have hn:RH l (dr s a)=rdT (dr s (a+(rv (dr s a)).2.toNat)):=by
   rw [RH,P8 g0];simp only [Option.bind_some];rw [if_pos (by omega),hd]
  have ht:=Al (dr s (a+(rv (dr s a)).2.toNat))
  rw [C2] at ht
  refine kT (by omega) (YK (by rw [C2];omega) (BA (AG (fun t0=> ?_) fun t0=> ?_)))
  ·exact h2 (by rw [hn,vF t0])
  ·have hd2:=ZA s (a+(rv (dr s a)).2.toNat) (rt (dr s (a+(rv (dr s a)).2.toNat))).2.toNat (by omega)
   have:=h1 _ _ (by rw [hn,tQ t0,hd2]) (by omega) (by omega)
   refine B3 ⟨by omega,by omega⟩ (B3 ⟨by omega,by omega⟩ ?_)
   have e2:(a:Int)+(rv (dr s a)).2+(rt (dr s (a+(rv (dr s a)).2.toNat))).2=((a+(rv (dr s a)).2.toNat+(rt (dr s (a+(rv (dr s a)).2.toNat))).2.toNat:Nat):Int):=by omega
   rw [e2];exact this
theorem aM {l:List Int} {i:Nat} {K:Value→Prop} (hi:i<l.length) (h:K (I (gI l i))):ixW l.length (I (i:Int)) fun t=>ldc (tI l) [] (AA t*1) K:=AW hi (ldI hi h)
theorem XK {n:Int} {l:List ByteArray} {s:ByteArray} {K:J2} (hl:l.length<2^40) (hs:(s.size:Int)<2^40)
  (h:K [I (CC n l s).o.kind,I (CC n l s).o.a,I (CC n l s).o.b,I (CC n l s).o.c, .string (CC n l s).o.site,I (CC n l s).a.code,I (CC n l s).a.val,I (CC n l s).last, .bool (CC n l s).ok] [tI (CC n l s).a.freed,tS (CC n l s).sites]):
  cl2 ⟨Tryz.prog,w0⟩ 51 FV.sg [I n, .string s] [tS l] K:=by
 refine FV.cl2 ?_
 unfold FV.txt
 simp only [AK,AS,AJ,AI,AM,AE,AH,AN,AO,AP,AL,AR,AT,AQ,BB,BE,BI,BH,BK,BJ,BF,AX,A4,AY,A1,AZ,A5]
 have fail:E0 n l s=none→K [I 0,I 0,I 0,I 0, .string ⟨#[]⟩,I 0,I 0,I n, .bool false] [[],[]++tS l]:=fun hx=>by
  have:CC n l s=⟨⟨0,0,0,0,⟨#[]⟩⟩,⟨0,0,[]⟩,n,l,false⟩:=by rw [CC,hx]
  rw [this] at h;exact h
 refine DP (RG l) (by omega) ?_
 refine O5 (a0:=0) (n:=4) hs (Nat.zero_le _) (by omega) (fun L a1 hL _ g1 hLl=> ?_) fun L hL _=> ?_
 rotate_left
 ·refine AV (CM (by omega) (fail ?_))
  rw [Ee] at hL
  rw [pW,hL];rfl
 rw [Ee] at hL
 simp only [AK,AS,AJ,AI,AM,AE,AH,AN,AO,AP,AL,AR,AT,AQ,BB,BE,BI,BH,BK,BJ,BF,AX,A4,AY,A1,AZ,A5]
 refine AV (C3 (by omega) ?_)
 refine aM (i:=0) (by omega) (aM (i:=1) (by omega) (DT (aM (i:=2) (by omega) (aM (i:=3) (by omega) (DT ?_)))))
 have hX:=pW n l s
 rw [hL] at hX
 simp only [Option.bind_some] at hX
 have c1:w64 (gI L 1+n)=w64 (n+gI L 1):=by rw [Int.add_comm]
 rw [c1]
 generalize w64 (n+gI L 1)=A at hX ⊢
 have c2:w64 (gI L 3+A)=w64 (A+gI L 3):=by rw [Int.add_comm]
 rw [c2]
 generalize w64 (A+gI L 3)=Cc at hX ⊢
 generalize gI L 0=Kd at hX ⊢
 generalize gI L 2=B at hX ⊢
 rw [xJ] at hX
 refine bB hl hs g1 (fun nm a2 hN _ g2=> ?_) fun hN=> ?_
 rotate_left
 ·refine AV (CM (by omega) (fail ?_))
  rw [hX,hN];rfl
 rw [hN] at hX
 simp only [Option.bind_some] at hX
 refine AV (C3 (by omega) ?_)
 have hb:=NW (dr s a2)
 rw [C2] at hb
 refine kT g2 (ID (by rw [C2];omega) (B3 ⟨by omega,by omega⟩ ?_))
 have e3:(a2:Int)+(rv (dr s a2)).2=((a2+(rv (dr s a2)).2.toNat:Nat):Int):=by omega
 simp only [BB,BE]
 rw [e3]
 have hd3:dr (dr s a2) (rv (dr s a2)).2.toNat=dr s (a2+(rv (dr s a2)).2.toNat):=ZA _ _ _ (by omega)
 refine O5 (n:=1) hs (by omega) (by omega) (fun W a3 hW _ g3 hWl=> ?_) fun W hW _=> ?_
 rotate_left
 ·refine BA (BM (F5 (fun h0=>AV (CD h0 rfl (CM (by omega) (fail ?_)))) fun h0=>CI h0 rfl (BP (fail ?_))))
  ·rw [hX,E6,P8 h0]
   simp only [Option.bind_some]
   rw [hd3,oV,hW];rfl
  ·rw [hX,E6,WO h0];rfl
 refine BA (BM (F5 (fun h0=>AV (CD h0 rfl (C3 (by omega) ?_))) fun h0=>CI h0 rfl (BP (fail ?_))))
 rotate_left
 ·rw [hX,E6,WO h0];rfl
 rw [E6,P8 h0] at hX
 simp only [Option.bind_some] at hX
 rw [hd3,oV,hW] at hX
 simp only [Option.bind_some] at hX
 have hb4:=NW (dr s a3)
 rw [C2] at hb4
 refine kT g3 (ID (by rw [C2];omega) ?_)
 rw [yR] at hX
 refine BA (BM (F5 (fun h4=>FJ ?_) fun h4=>CI h4 rfl (BP (fail ?_))))
 rotate_left
 ·rw [hX,WO h4];rfl
 rw [P8 h4] at hX
 simp only [Option.bind_some] at hX
 refine CD h4 rfl (AG (fun h8=>fail ?_) fun h8=> ?_)
 ·rw [hX,if_pos h8]
 rw [if_neg h8] at hX
 simp only [AK,AS,AJ,AI,AM,AE,AH,AN,AO,AP,AL,AR,AT,AQ,BB,BE,BI,BH,BK,BJ,BF,AX,A4,AY,A1,AZ,A5]
 refine aM (l:=W) (i:=0) (by omega) (DT ?_)
 have c5:w64 (gI W 0+A)=w64 (A+gI W 0):=by rw [Int.add_comm]
 rw [c5]
 generalize w64 (A+gI W 0)=Vv at hX ⊢
 have hd5:dr (dr s a3) (rv (dr s a3)).2.toNat=dr s (a3+(rv (dr s a3)).2.toNat):=ZA _ _ _ (by omega)
 rw [hd5] at hX
 have e5:(a3:Int)+(rv (dr s a3)).2=((a3+(rv (dr s a3)).2.toNat:Nat):Int):=by omega
 obtain ⟨m,hm⟩: ∃m:Nat,(rv (dr s a3)).1=m:=⟨(rv (dr s a3)).1.toNat,by omega⟩
 refine B3 ⟨by omega,by omega⟩ ?_
 rw [e5,hm]
 rw [hm,Int.toNat_natCast] at hX
 have rest: ∀(F:List Int) (en:Int),F.length=m→(en<0→E0 n l s=none)→(0≤en→E0 n l s=some (⟨Kd,A,B,Cc,nm⟩,⟨(rv (dr s a2)).1,Vv,(TC A F).1⟩))→
   BG (fun r40 x38 k39=>(prP (bnI .lss (nx x38 3) (iv (cnt 1 (nxc k39 0)))) fun t139_55=>AU t139_55 (ixW (cnt 1 (nxc k39 0)) (nx x38 3) fun t145_56=>ldc (nxc k39 0) [] ((AA t145_56)*1) fun t146_57=>prP (bnI .add (nx x38 2) t146_57) fun t147_58=>apW [T.c t147_58] true (cnt 1 (nxc k39 2)) (cnt 1 [T.c t147_58]) 8 (prP (bnI .add (nx x38 3) (.int .i64 1)) fun t141_59=>r40 [(nx x38 0),(nx x38 1),t147_58,t141_59,(nx x38 4),(nx x38 5),(nx x38 6),(nx x38 7),(nx x38 8),(nx x38 9),(nx x38 10),(nx x38 11),(nx x38 12),(nx x38 13),(nx x38 14),(nx x38 15),(nx x38 16),(nx x38 17),(nx x38 18),(nx x38 19),(nx x38 20)] [(nxc k39 0),(nxc k39 1),((nxc k39 2)++[T.c t147_58])])) (
    cl2 ⟨Tryz.prog,w0⟩ 74 DN.sg [(nx x38 4),(nx x38 14),(nx x38 15),(nx x38 16),(nx x38 17),(nx x38 18),(nx x38 19),(nx x38 20)] [tS l,(nxc k39 2)] fun v60 d61=>prP (bnI .lss (nx x38 1) (.int .i64 0)) fun t162_62=>gE t162_62 (gE t162_62 (gP t162_62 false (prP (bnS .neq (nx v60 0) (nx x38 0))) fun t166_63=>prP (pk t162_62 (.bool true) t166_63) fun t167_64=>gE t167_64 (gP t167_64 false (prP (bnS .eql (nx x38 0) (.string {data:= #[]}))) fun t170_65=>prP (pk t167_64 (.bool true) t170_65) fun t171_66=>AU t171_66 (
     K [(.int .i64 0),(.int .i64 0),(.int .i64 0),(.int .i64 0),(.string {data:= #[]}),(.int .i64 0),(.int .i64 0),(nx x38 13),(.bool false)] [[],(nxc k39 1)]) (
     K [(nx x38 14),(nx x38 15),(nx x38 16),(nx x38 17),(nx x38 18),(nx x38 19),(nx x38 20),(nx v60 1),(.bool true)] [(nxc k39 2),(nxc d61 0)]))))))) [.string s,I en,I A,I 0,I n,I 0,I 0,I 0,I 0, .string {data:= #[]},I 0,I 0,I 0,I n,I Kd,I A,I B,I Cc, .string nm,I (rv (dr s a2)).1,I Vv] [tI F,([]++tS l),[]]:=fun F en hF hne hpe=>by
  refine A9 (fun i=>[.string s,I en,I (TC A (F.take i)).2,iv i,I n,I 0,I 0,I 0,I 0, .string {data:= #[]},I 0,I 0,I 0,I n,I Kd,I A,I B,I Cc, .string nm,I (rv (dr s a2)).1,I Vv]) (fun i=>[tI F,([]++tS l),tI (TC A (F.take i)).1]) F.length (fun _=>True) rfl rfl trivial (fun R i hi _ hR=> ?_)
  have hsl:=kI A F i hi
  simp only [AK,AS,AJ,AI,AM,AE,AH,AN,AO,AP,AL,AR,AT,AQ,BB,BE,BI,BH,BK,BJ,BF,AX,A4,AY,A1,AZ,A5]
  refine AV (AG (fun hlt=> ?_) fun hge=> ?_)
  ·have hlt:i<F.length:=by omega
   have:=hR hlt trivial
   rw [dX hlt] at this
   simp only at this
   rw [←E9,GD hlt] at this
   exact AW hlt (ldI hlt (DT (DP rfl (by omega) (A6 (by omega) this))))
  ·have:i=F.length:=by omega
   subst this
   rw [List.take_length] at hsl ⊢
   refine QP hl (by omega) ?_
   have hsh:MI n l Kd A B Cc nm (rv (dr s a2)).1 Vv (TC A F).1=HE n l ⟨Kd,A,B,Cc,nm⟩ ⟨(rv (dr s a2)).1,Vv,(TC A F).1⟩:=by rw [HE]
   rw [hsh]
   have bad:(en<0∨(HE n l ⟨Kd,A,B,Cc,nm⟩ ⟨(rv (dr s a2)).1,Vv,(TC A F).1⟩).1≠s∨s=⟨#[]⟩)→K [I 0,I 0,I 0,I 0, .string ⟨#[]⟩,I 0,I 0,I n, .bool false] [[],[]++tS l]:=fun hh=>by
    rcases Int.lt_or_le en 0 with h1 | h1
    ·exact fail (hne h1)
    ·have:CC n l s=⟨⟨0,0,0,0,⟨#[]⟩⟩,⟨0,0,[]⟩,n,l,false⟩:=by
      rw [CC,hpe h1]
      simp only
      rw [if_neg]
      rintro ⟨q1,q2⟩
      rcases hh with hh | hh | hh
      ·omega
      ·exact hh q2
      ·exact q1 (q2.trans hh)
     rw [this] at h;exact h
   repeat' (first | exact bad (.inl (by with_reducible assumption)) | exact bad (.inr (.inl (by with_reducible assumption))) | exact bad (.inr (.inr (by with_reducible assumption))) | refine BM ?_ | refine NH ?_ | refine CI (by first | with_reducible assumption | omega) rfl ?_ | refine CD (by first | with_reducible assumption | omega) rfl ?_ | refine RF rfl ?_ | refine BP ?_ | refine AV ?_ | refine IE ?_ | refine NO ?_ | refine AG (fun _=> ?_) (fun _=> ?_) | refine F5 (fun _=> ?_) (fun _=> ?_) | simp only [AK,AS,AJ,AI,AM,AE,AH,AN,AO,AP,AL,AR,AT,AQ,BB,BE,BI,BH,BK,BJ,BF,AX,A4,AY,A1,AZ,A5])
   rename_i q1 q2 q3
   have:CC n l s=⟨⟨Kd,A,B,Cc,nm⟩,⟨(rv (dr s a2)).1,Vv,(TC A F).1⟩,(HE n l ⟨Kd,A,B,Cc,nm⟩ ⟨(rv (dr s a2)).1,Vv,(TC A F).1⟩).2.1,(HE n l ⟨Kd,A,B,Cc,nm⟩ ⟨(rv (dr s a2)).1,Vv,(TC A F).1⟩).2.2,true⟩:=by
    rw [CC,hpe (by omega)]
    simp only
    have q2':=Decidable.not_not.1 q2
    rw [if_pos ⟨fun hh=>q3 (q2'.symm.trans hh),q2'⟩]
   rw [this] at h;exact h
 refine O5 (n:=m) hs (by omega) (by omega) (fun F a6 hF _ g6 hFl=> ?_) fun F hF hFl=> ?_
 ·exact rest F a6 hFl (fun hh=>by omega) fun _=>by rw [hX,hF];rfl
 ·exact rest F (-1) hFl (fun _=>by rw [hX,hF];rfl) fun hh=>by omega
end Go.Proofs.YtnhicpkhkaihoaaGreat.P
