/- A part of the proof. -/
import Derived.Test.YtklmcfpgdfibnaaPtRecE
namespace Go.Proofs.Ytklmcfpgdfibnaa.P
open Go Go.Proofs.Ytklmcfpgdfibnaa Go.Proofs.Ytklmcfpgdfibnaa.Eng
set_option linter.unusedVariables false
set_option maxHeartbeats 4000000
set_option linter.unusedVariables false
set_option linter.unusedSimpArgs false
attribute [local irreducible] prP gP gE gF AW ixW ldc ldg ldl stc stg scW mkW apW BK cl2 BW EI CM
variable {w0:World}
theorem WT (l:List Op5) (k:Nat): ∀i,i≤k→C2 (l.take k) i=C2 l i
 | 0,_=>rfl
 | i+1,hi=>by
   simp only [C2]
   rw [WT l k i (by omega),oB (by omega)]
theorem XW (l:List Op5): ∀n k,k≤n→(C2 l n).2.take k=(C2 l k).2
 | 0,k,hk=>by
   have:k=0:=by omega
   subst this;rfl
 | n+1,k,hk=>by
   rcases Nat.lt_or_ge n k with h | h
   ·have:k=n+1:=by omega
    subst this
    exact List.take_of_length_le (by rw [(H9 l (n+1)).2];omega)
   ·have hl:=(H9 l n).2
    simp only [C2]
    rw [List.take_append_of_le_length (by omega),XW l n k h]
theorem iT {L:List Int} {k:Nat} {K:J2} (hb:RZ L) (hl:L.length≤1048576) (hk:k≤1000) (h: ∀x:Int,0≤x→x≤255→K [I x] []):cl2 ⟨Try.prog,w0⟩ 38 K2.sg [iv k] [tY L] K:=by
 refine K2.cl2 ?_
 unfold K2.txt
 rw [Z0]
 refine AX (AV (fun hlt=> ?_) fun hge=> ?_)
 ·have hlt:k<L.length:=by omega
  have hx:=hb.at hlt
  exact AT hlt (ldY hlt (US ⟨by omega,by omega⟩ (h _ (by omega) (by omega))))
 ·refine NW ⟨by omega,by omega⟩ (NW ⟨by omega,by omega⟩ (D4 ⟨by omega,by omega⟩ (P4 (by omega) (by omega) ?_)))
  exact h _ (by omega) (by omega)
theorem TW {L:List Int} {K:J2} (hb:RZ L) (h: ∀l:List Op5,l.length≤70→(∀o∈l,OpF o)→K [] [tR tP l]):cl2 ⟨Try.prog,w0⟩ 43 ET.sg [] [tY L] K:=by
 refine ET.cl2 ?_
 unfold ET.txt
 refine Z2 hb fun z=> ?_
 exact ZP (m:=70) hb (Nat.zero_le _) (by omega) fun l i1 z1 hl ho h1=>h l hl fun o hx=>(ho o hx).f
attribute [local irreducible] C2
theorem jI {L:List Int} (g:U9 L) {K:J2} (done:K [.bool true] []):GV.txt ⟨Try.prog,w0⟩ (tY L) K:=by
 unfold GV.txt
 refine dG (AV (fun _=>done) fun hsz=> ?_)
 have hb:=g.f hsz
 refine TW hb fun l hl ho=> ?_
 simp only [AG,AM,AK,AP,AI,AD,AE,AR,AQ,AO,AL,AJ,AN,AH,BC,BF,BJ,BG,BH,BI,BE,A6,A7,A1,A4,A5,AZ]
 refine oX (fun xs cs=> ∃k:Nat,k≤l.length∧xs=[iv k]∧cs=[tR tP l]) ?_ fun j hj=> ?_
 rotate_left
 ·refine IF (AV (fun hgt=> ?_) fun _=>hj _ _ ⟨0,Nat.zero_le _,rfl,rfl⟩)
  refine iT (k:=0) hb (by omega) (by omega) fun x x0 x1=>D4 ⟨by omega,by omega⟩ (P4 x0 (by omega) ?_)
  have hlt:=Int.emod_lt_of_pos x (b:=(l.length:Int)+1) (by omega)
  have hge:=Int.emod_nonneg x (b:=(l.length:Int)+1) (by omega)
  refine hj _ _ ⟨(x % ((l.length:Int)+1)).toNat,by omega, ?_,rfl⟩
  rw [show iv (x % ((l.length:Int)+1)).toNat=I (((x % ((l.length:Int)+1)).toNat:Nat):Int) from rfl,Int.toNat_of_nonneg hge]
 rintro xs cs ⟨k,hk,rfl,rfl⟩
 simp only [AG,AM,AK,AP,AI,AD,AE,AR,AQ,AO,AL,AJ,AN,AH,BC,BF,BJ,BG,BH,BI,BE,A6,A7,A1,A4,A5,AZ]
 refine UU hk ?_
 have e1:GD (tR tP l) [] (AA (iv 0)*5) (AA (iv k)*5)=tR tP (l.take k):=by
  rw [AY,AY,iI,List.drop_zero]
 rw [e1]
 have tl:(l.take k).length=k:=List.length_take_of_le hk
 refine TF (by omega) (fun o hx=>ho o (List.mem_of_mem_take hx)) (TF (by omega) ho ?_)
 rw [tl,Nat.min_eq_left (show k≤400 by omega),Nat.min_eq_left (show l.length≤400 by omega),WT l k k (Nat.le_refl _)]
 have k2:=(H9 l k).2
 have n2:=(H9 l l.length).2
 simp only [trees,List.cons_append,List.nil_append]
 simp only [AG,AM,AK,AP,AI,AD,AE,AR,AQ,AO,AL,AJ,AN,AH,BC,BF,BJ,BG,BH,BI,BE,A6,A7,A1,A4,A5,AZ]
 have q1: ¬((C2 l k).2.length:Int)≠(k:Int):=by omega
 have q2: ¬((C2 l l.length).2.length:Int)≠(l.length:Int):=by omega
 refine B8 (BO (BO (BO (BO (F5 q1 (B8 (C5 q1 rfl (BO (BO (BO (F5 q2 (UU (by omega) ?_))))))))))))
 have e2:GD (tR tA (C2 l l.length).2) [] (AA (Q9 (two (iv 0) (iv k)))*3) (AA (RV (two (iv 0) (iv k)))*3)=tR tA (C2 l k).2:=by
  have h1:AA (Q9 (two (iv 0) (iv k)))=0:=rfl
  have h2:AA (RV (two (iv 0) (iv k)))=k:=AY k
  rw [h1,h2,iI,List.drop_zero,XW l _ _ hk]
 rw [e2]
 have fr: ∀n,n≤l.length→ ∀a∈(C2 l n).2,a.freed.length≤9:=fun n hn=>aJ ho n hn
 refine F5 q2 (Q1 (by omega) (fun o hx=>(by have:=fr k hk o hx;omega)) ?_)
 refine F5 q2 (B1 (C5 q2 rfl (BU ?_)))
 refine BB (fun i=>[iv (k+i)]) (fun i=>[tR tP l,tR tA (C2 l l.length).2,tR tO (C2 l (k+i)).1.A8,tR tW (C2 l (k+i)).1.B2,tI (C2 l (k+i)).1.buffer,tS (C2 l (k+i)).1.sites,tR tO (C2 l l.length).1.A8,tR tW (C2 l l.length).1.B2,tI (C2 l l.length).1.buffer,tS (C2 l l.length).1.sites]) (l.length-k) (fun _=>True) rfl rfl trivial (fun R i hi _ hR=> ?_)
 have ok:=(H9 l (k+i)).1
 simp only [AG,AM,AK,AP,AI,AD,AE,AR,AQ,AO,AL,AJ,AN,AH,BC,BF,BJ,BG,BH,BI,BE,A6,A7,A1,A4,A5,AZ]
 refine AX (AV (fun hlt=> ?_) fun hge=> ?_)
 ·have hlt:k+i<l.length:=by omega
  have hR:=hR (by omega) trivial
  have hof:OpF (po l (k+i)):=by rw [←gB hlt];exact ho _ (List.getElem_mem hlt)
  refine AT hlt (lI hlt ?_)
  simp only [rA,q9,qX,rC,qY]
  refine ZR ok.fits ok.kG hof.a hof.c ?_
  rw [RO ok]
  simp only [AG,AM,AK,AP,AI,AD,AE,AR,AQ,AO,AL,AJ,AN,AH,BC,BF,BJ,BG,BH,BI,BE,A6,A7,A1,A4,A5,AZ]
  have hla:k+i<(C2 l l.length).2.length:=by omega
  refine AT hla (dE hla ?_)
  simp only [qM,rE]
  rw [lR hla,YP l l.length (k+i) hlt]
  refine MB (by have:=(ok.tM (o:=po l (k+i))).len;omega) (B1 (BU (BA (by omega) ?_)))
  rw [show k+(i+1)=k+i+1 from rfl] at hR
  have es:(C2 l (k+i+1)).1=(HC (C2 l (k+i)).1 (po l (k+i))).1:=by rw [C2]
  rw [es] at hR
  exact hR
 ·have:k+i=l.length:=by omega
  rw [this]
  exact T2 (H9 l l.length).1.fits done
end Go.Proofs.Ytklmcfpgdfibnaa.P
