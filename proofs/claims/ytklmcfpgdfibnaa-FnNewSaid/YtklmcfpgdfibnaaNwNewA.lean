/- A part of the proof. -/
import Derived.Test.YtklmcfpgdfibnaaNwGcA
import Derived.Test.YtklmcfpgdfibnaaNwGdB
namespace Go.Proofs.Ytklmcfpgdfibnaa.P
open Go Go.Proofs.Ytklmcfpgdfibnaa Go.Proofs.Ytklmcfpgdfibnaa.Eng
set_option linter.unusedVariables false
set_option maxHeartbeats 4000000
set_option linter.unusedVariables false
set_option linter.unusedSimpArgs false
attribute [local irreducible] prP gP gE gF AV ixW ldc ldg ldl stc stg scW mkW apW BL cl2 BS EC CX
variable {w0:World}
theorem Mid.gen {os:List AU} {ns:Nat} {buf:List Int} {r:List AU×List Int×An} (m:Mid os ns buf r): ∀i,i<8→(ob r.1 i).gen=(ob os i).gen:=fun i hi=>by
 rcases m with ⟨c,hc,rfl⟩ | ⟨os1,h1,hs,_,rfl⟩ | ⟨os1,x,h1,hs,_,rfl⟩
 ·rfl
 ·exact (hs.2 i).2.1
 ·rw [←(hs.2 i).2.1];exact (gK h1).gn i hi
theorem mK {os:List AU} {ns:Nat} {buf:List Int} (h:HP os ns buf []) {i:Nat} (hi:i<8):(ob (N4 os buf).1 i).gen=(ob os i).gen:=by
 simp only [N4]
 rw [HI hi]
 cases hw:KX os (fun i=>(ob os i).count) buf i with
 | true=>rw [qQ hw];rfl
 | false=>exact (sA hw).2.1
theorem aG {h:Hp} {o:Op5} (hk:DB h):(∀i,i<8→(ob h.BB i).gen≤(ob (GX h o).1.BB i).gen)∧
  (o.kind=1→(GX h o).2.code=0→ ∃k:Nat,B3 h.BB=(k:Int)∧k<8∧0≤(ob h.BB k).gen∧(ob h.BB k).gen<999∧(GX h o).2.val=CM k ((ob h.BB k).gen+1)∧(ob (GX h o).1.BB k).gen=(ob h.BB k).gen+1):=by
 have hp:=hk.hp
 have hol:=hk.ol
 by_cases h1:o.kind=1
 ·unfold GX
  rw [if_pos h1]
  unfold GS
  split
  ·exact ⟨fun _ _=>Int.le_refl _,fun _ hh=>absurd hh (by simp)⟩
  ·split
   ·exact ⟨fun _ _=>Int.le_refl _,fun _ hh=>absurd hh (by simp)⟩
   ·rename_i hf
    split
    ·exact ⟨fun _ _=>Int.le_refl _,fun _ hh=>absurd hh (by simp)⟩
    ·obtain ⟨f1,f2,f3⟩:=LX hf
     have k8:(B3 h.BB).toNat<8:=by omega
     have hg:=(hp.obj (B3 h.BB).toNat k8).gen
     simp only [HX,Bool.and_eq_true,decide_eq_true_eq] at f3
     have ew:w64 ((ob h.BB (B3 h.BB).toNat).gen+1)=(ob h.BB (B3 h.BB).toNat).gen+1:=KF ⟨by omega,by omega⟩
     simp only
     rw [ew]
     refine ⟨fun i hi=> ?_,fun _ _=>⟨(B3 h.BB).toNat,f2,k8,hg.1,f3.2,by rw [←f2], ?_⟩⟩
     ·rw [FQ f1]
      split
      ·rename_i he;subst he;simp only [I0];omega
      ·exact Int.le_refl _
     ·rw [FQ f1,if_pos rfl];rfl
 ·refine ⟨fun i hi=> ?_,fun hh=>absurd hh h1⟩
  unfold GX
  rw [if_neg h1]
  split
  ·exact Int.le_of_eq ((hp.Z2 (id:=o.a) (kd:=o.kind)).gen i hi).symm
  ·split
   ·exact Int.le_of_eq ((hp.WV (a:=o.a) (b:=o.b) (c:=o.c)).gen i hi).symm
   ·split
    ·exact Int.le_refl _
    ·split
     ·exact Int.le_refl _
     ·split
      ·exact Int.le_of_eq (mK hp hi).symm
      ·exact Int.le_refl _
attribute [local irreducible] C8
def Old (l:List Op5) (i:Nat) (ids:List Int):Prop:=ids.length≤i∧ ∀v∈ids,8≤v∧v/8≤(ob (C8 l i).1.BB (v % 8).toNat).gen
theorem Y3 (l:List Op5) (i:Nat):(C8 l (i+1)).1=(GX (C8 l i).1 (po l i)).1:=by rw [C8]
theorem Old.IL {l:List Op5} {i:Nat} {ids:List Int} (h:Old l i ids):Old l (i+1) ids:=⟨by have:=h.1;omega,fun v hv=>by
 obtain ⟨a,b⟩:=h.2 v hv
 refine ⟨a, ?_⟩
 rw [Y3]
 have:=(aG (o:=po l i) (LK l i).1).1 (v % 8).toNat (by omega)
 omega⟩
theorem o7 {L:List Int} (g:UP L) {K:J2} (done:K [.bool true] []):HY.txt ⟨Try.prog,w0⟩ (tY L) K:=by
 unfold HY.txt
 refine cO (AW (fun _=>done) fun hsz=> ?_)
 have hb:=g.f hsz
 refine TH hb fun l hl ho=>a8 (by omega) ho ?_
 rw [Nat.min_eq_left (show l.length≤400 by omega)]
 have n2:=(LK l l.length).2
 simp only [trees,List.cons_append,List.nil_append]
 simp only [AG,AK,AN,AM,AI,AD,AE,AP,AO,AJ,AQ,AR,AL,AH,BE,BJ,BH,BG,BK,BI,BF,A4,A8,A7,A6,A5,AZ]
 refine CN (DE (by omega) (LC ?_))
 refine EI (α:=Nat×List Int) (fun q=>[iv q.1]) (fun q=>[tR tP l,tR tA (C8 l l.length).2,tI q.2,tR tO (C8 l q.1).1.BB,tR tW (C8 l q.1).1.CA,tI (C8 l q.1).1.buffer,tS (C8 l q.1).1.sites]) (fun q=>l.length-q.1) (fun q=>q.1≤l.length∧Old l q.1 q.2) (0,[]) rfl (by simp only [C8];rfl) ⟨Nat.zero_le _,Nat.le_refl _,by simp⟩ (fun R q hq hR=> ?_)
 obtain ⟨i,ids⟩:=q
 obtain ⟨hi,hold⟩:=hq
 simp only at hi hold
 have ok:=(LK l i).1
 simp only [AG,AK,AN,AM,AI,AD,AE,AP,AO,AJ,AQ,AR,AL,AH,BE,BJ,BH,BG,BK,BI,BF,A4,A8,A7,A6,A5,AZ]
 refine AX (AW (fun hlt=> ?_) fun hge=> ?_)
 ·have hlt:i<l.length:=by omega
  have hla:i<(C8 l l.length).2.length:=by omega
  have hof:OpF (po l i):=by rw [←gY hlt];exact ho _ (List.getElem_mem hlt)
  refine oV (fun xs cs=> ∃ids',Old l (i+1) ids'∧xs=[iv i]∧cs=[tR tP l,tR tA (C8 l l.length).2,tI ids',tR tO (C8 l i).1.BB,tR tW (C8 l i).1.CA,tI (C8 l i).1.buffer,tS (C8 l i).1.sites]) ?_ fun j hj=> ?_
  ·rintro xs cs ⟨ids',ho',rfl,rfl⟩
   have hR:=hR (i+1,ids') ⟨by simp only;omega,ho'⟩ (by simp only;omega)
   simp only [Y3] at hR
   simp only [AG,AK,AN,AM,AI,AD,AE,AP,AO,AJ,AQ,AR,AL,AH,BE,BJ,BH,BG,BK,BI,BF,A4,A8,A7,A6,A5,AZ]
   refine AS hlt (kQ hlt ?_)
   simp only [pP,p6,pV,pO,pN]
   refine RJ ok.fits ok.l5 hof.a hof.c ?_
   rw [VJ ok]
   exact BA (by omega) hR
  ·have hj0:=hj _ _ ⟨ids,hold.IL,rfl,rfl⟩
   refine AS hlt (o6 hlt rfl (BP ?_))
   by_cases h1:(po l i).kind=1
   ·refine BW (BW (HV h1 (AS hla (BW (HV h1 (oF hla rfl (HV h1 (BP (DX h1 rfl (AW (fun h0=> ?_) fun _=>hj0))))))))))
    rw [R1 l l.length i hlt] at h0
    obtain ⟨k,e1,k8,g0,g9,ev,eg⟩:=(aG (o:=po l i) ok).2 h1 h0
    have ea:(an (C8 l l.length).2 i).val=k+8*((ob (C8 l i).1.BB k).gen+1):=by
     rw [R1 l l.length i hlt,ev];exact HK k8 (by omega) (by omega)
    have ek:(an (C8 l l.length).2 i).val % 8=k:=by omega
    have ed:(an (C8 l l.length).2 i).val/8=(ob (C8 l i).1.BB k).gen+1:=by omega
    generalize hv:(an (C8 l l.length).2 i).val=v at ea ek ed
    have hn:v∉ids:=fun hm=>by
     have:=(hold.2 v hm).2
     rw [show (v % 8).toNat=k by omega] at this
     omega
    have hol:=ok.ol
    have q1: ¬B3 (C8 l i).1.BB≠v % 8:=by omega
    have ldv: ∀{Q:Value→Prop},Q (I v)→ldc (tR tA (C8 l l.length).2) [] (AA (iv i)*3+1) Q:=fun hQ=>qR (c:=1) hla (by decide) (by rw [←hv];rfl) hQ
    have hil:=hold.1
    refine AS hla (ldv (dG (by omega) (BW (F8 hn (NT hol (BW (BW (F8 hn (AS hla (BW (F8 hn (ldv (F8 hn (QX (by omega) (by omega) (F8 hn (CN (DW hn rfl ?_)))))))))))))))))
    refine BW (BW (F8 q1 (AS hla (BW (F8 q1 (ldv (F8 q1 (AX (DW q1 rfl (DE (by omega) ?_))))))))))
    refine AS hla (ldv ?_)
    refine EH rfl (by omega) ?_
    rw [D6]
    refine hj _ _ ⟨ids++[v],⟨by rw [List.length_append,List.length_singleton];omega,fun x hx=> ?_⟩,rfl,rfl⟩
    rcases List.mem_append.1 hx with hx | hx
    ·exact hold.IL.2 x hx
    ·rw [List.mem_singleton.1 hx]
     refine ⟨by omega, ?_⟩
     rw [Y3,show (v % 8).toNat=k by omega,eg];omega
   ·exact BW (BW (LA h1 (BW (LA h1 (LA h1 (DW h1 rfl (BY hj0)))))))
 ·refine KT (LC ?_)
  refine TN SP.fits (tV (KT (MM ?_)))
  exact P6 SP.fits SP.l5 (fun _=>VF rfl done) fun hh=>absurd SP hh
end Go.Proofs.Ytklmcfpgdfibnaa.P
