/- A part of the proof. -/
import Derived.Test.YtnhicpkhkaihoaaGreatFaRecD
import Derived.Test.YtnhicpkhkaihoaaGreatFaDrC
namespace Go.Proofs.YtnhicpkhkaihoaaGreat.P
open Go Go.Proofs.YtnhicpkhkaihoaaGreat Go.Proofs.YtnhicpkhkaihoaaGreat.Eng
set_option linter.unusedVariables false
set_option maxHeartbeats 4000000
set_option linter.unusedVariables false
set_option linter.unusedSimpArgs false
attribute [local irreducible] prP gP gE gF AU ixW ldc ldg ldl stc stg scW mkW apW BG cl2 BX GP CZ
variable {w0:World}
theorem RM {h:Hp} {K:J2} (hf:Fits h) (hk:K [.bool true] []):cl2 ⟨Tryz.prog,w0⟩ 11 GL.sg [] (trees h++trees h) K:=by
 obtain ⟨f1,f2,f3,f4,f5,_⟩:=hf
 refine GL.cl2 ?_
 unfold GL.txt
 simp only [AK,AS,AJ,AI,AM,AE,AH,AN,AO,AP,AL,AR,AT,AQ,BB,BE,BI,BH,BK,BJ,BF,AX,A4,AY,A1,AZ,A5]
 repeat' (first | refine UO (by omega) ?_ | refine BM ?_ | refine NV ?_ | refine EP (by first | with_reducible assumption | omega) ?_ | refine CD (by first | with_reducible assumption | omega) rfl ?_ | refine VA rfl ?_ | refine C3 (by first | with_reducible assumption | omega) ?_ | refine B9 ?_ | refine BU ?_)
 refine A9 (fun i=>[iv i]) (fun _=>[]) h.BD.length (fun _=>True) rfl rfl trivial (fun R i hi _ hR=> ?_)
 simp only [AK,AS,AJ,AI,AM,AE,AH,AN,AO,AP,AL,AR,AT,AQ,BB,BE,BI,BH,BK,BJ,BF,AX,A4,AY,A1,AZ,A5]
 refine AV (AG (fun hlt=> ?_) fun _=> ?_)
 ·have hlt:i<h.BD.length:=by omega
  have hR:=hR hlt trivial
  have hfl:=f2 _ (List.getElem_mem hlt)
  rw [EG hlt] at hfl
  refine AW hlt (OM hlt (AW hlt (OM hlt ?_)))
  simp only [o7,qT,wY,uK,uS,oA,uP]
  rw [I5 hlt]
  have nb: ∀b:Bool, ¬b≠b:=fun b hh=>hh rfl
  repeat' (first | refine UO (by omega) ?_ | refine EP (nb _) ?_ | refine CD (nb _) rfl ?_ | refine BM ?_ | refine EP (by first | with_reducible assumption | omega) ?_ | refine CD (by first | with_reducible assumption | omega) rfl ?_ | refine BT ?_ | refine B9 ?_ | refine CP ?_ | refine A6 (by omega) ?_ | refine BU ?_)
  exact hR
 ·refine A9 (fun i=>[iv i]) (fun _=>[]) h.B8.length (fun _=>True) rfl rfl trivial (fun R i hi _ hR=> ?_)
  simp only [AK,AS,AJ,AI,AM,AE,AH,AN,AO,AP,AL,AR,AT,AQ,BB,BE,BI,BH,BK,BJ,BF,AX,A4,AY,A1,AZ,A5]
  refine AV (AG (fun hlt=> ?_) fun _=> ?_)
  ·have hlt:i<h.B8.length:=by omega
   have hR:=hR hlt trivial
   refine AW hlt (ZO hlt (AW hlt (ZO hlt ?_)))
   simp only [sT,Am]
   exact wT (C3 (fun hh=>hh rfl) (A6 (by omega) hR))
  ·refine A9 (fun i=>[iv i]) (fun _=>[]) h.sites.length (fun _=>True) rfl rfl trivial (fun R i hi _ hR=> ?_)
   simp only [AK,AS,AJ,AI,AM,AE,AH,AN,AO,AP,AL,AR,AT,AQ,BB,BE,BI,BH,BK,BJ,BF,AX,A4,AY,A1,AZ,A5]
   refine AV (AG (fun hlt=> ?_) fun _=>hk)
   have hlt:i<h.sites.length:=by omega
   exact AW hlt (ldS hlt (AW hlt (ldS hlt (NO (C3 (fun hh=>hh rfl) (A6 (by omega) (hR hlt trivial)))))))
theorem xV {l:List An} {i:Nat} {K:Value→Prop} (hi:i<l.length) (h:K (I (an l i).val)):ldc (tR tA l) [] (AA (iv i)*3+1) K:=Cu hi (by decide) rfl h
theorem zV {l:List An} {i:Nat} {v:Int} {K:List T→Prop} (hi:i<l.length) (h:K (tR tA (l.set i {an l i with val:=v}))):stc (tR tA l) [] (AA (iv i)*3+1) (I v) K:=by
 rw [←pG hi] at h
 exact U9 hi (by decide) rfl rfl h
theorem UE {L:List Int} {i:Nat} {z:Int} {K:J2} (hb:SQ L) (hi:i≤L.length) (h: ∀(s:ByteArray) i' z',s.size≤4600→i'≤L.length→K [.string s,iv i',I z'] []):cl2 ⟨Tryz.prog,w0⟩ 49 H8.sg [iv i,I z] [tY L] K:=by
 refine H8.cl2 (eZ (m:=20) hb hi (by omega) fun l i1 z1 hl ho h1=> ?_)
 have hof: ∀o∈l,OpF o:=fun o hx=>(ho o hx).f
 refine lT (by omega) hof ?_
 rw [show min l.length 400=l.length from by omega]
 have al:=(ND l l.length).2
 have fr:=jQ hof l.length (Nat.le_refl _)
 generalize (DG l l.length).2=A at al fr ⊢
 have enc: ∀(A:List An) i' z',A.length=l.length→(∀a∈A,a.freed.length≤9)→i'≤L.length→cl2 ⟨Tryz.prog,w0⟩ 37 G6.sg [] [tR tP l,tR tA A] fun v28 d29=>K [nx v28 0,iv i',I z'] []:=fun A i' z' al fr hi'=>by
  refine cT (by omega) (by omega) (fun i=>by have:=xC fr i;omega) ?_
  have:=jP l A
  exact h _ i' z' (by omega) hi'
 have upd: ∀i' z' x,0≤x→x<(A.length:Int)→i'≤L.length→ixW A.length (I x) fun t29=>ldc (tR tA A) [] (AA t29*3+1) fun t31=>prP (bnI .add t31 (I 1)) fun t32=>ixW A.length (I x) fun t33=>stc (tR tA A) [] (AA t33*3+1) t32 fun k19=>cl2 ⟨Tryz.prog,w0⟩ 37 G6.sg [] [tR tP l,k19] fun v28 d29=>K [nx v28 0,iv i',I z'] []:=fun i' z' x x0 x1 hi'=>by
  obtain ⟨k,rfl⟩: ∃k:Nat,x=k:=⟨x.toNat,by omega⟩
  have hk:k<A.length:=by omega
  refine AW hk (xV hk (DT (AW hk (zV hk ?_))))
  refine enc _ i' z' (by simp [al]) (fun a ha=> ?_) hi'
  rcases List.mem_or_eq_of_mem_set ha with ha | rfl
  ·exact fr a ha
  ·exact xC fr k
 refine BS ?_
 rw [show trees (DG l l.length).1++[tR tA A]=[tR tO (DG l l.length).1.BD,tR tW (DG l l.length).1.B8,tI (DG l l.length).1.buffer,tS (DG l l.length).1.sites,tR tA A] from rfl]
 simp only [AK,AS,AJ,AI,AM,AE,AH,AN,AO,AP,AL,AR,AT,AQ,BB,BE,BI,BH,BK,BJ,BF,AX,A4,AY,A1,AZ,A5]
 refine FJ (BM (Eo (fun hgt=> ?_) fun hle=>CD hle rfl (BT (enc A i1 z1 al fr h1))))
 refine M5 hb h1 fun b i2 z2 h2=>CI hgt rfl (JJ (fun _=> ?_) fun _=>enc A i2 z2 al fr h2)
 refine CF hb h2 fun x i3 z3 x0 x1 h3=> ?_
 exact upd i3 z3 x x0 (by omega) h3
theorem V3 {L:List Int} {K:J2} (hb:SQ L) (h: ∀s:ByteArray,s.size≤5000→K [.string s] []):cl2 ⟨Tryz.prog,w0⟩ 48 FZ.sg [] [tY L] K:=by
 refine FZ.cl2 (VX hb fun z=>UE hb (Nat.zero_le _) fun s i1 z1 hs h1=>CF hb h1 fun x i2 z2 x0 x1 h2=> ?_)
 refine BA (AG (fun _=> ?_) fun _=>BA (AG (fun _=> ?_) fun _=>BA (AG (fun _=> ?_) fun _=>h s (by omega))))
 ·exact aW hb h2 (by omega) fun t i3 z3 ht h3=>h t (by omega)
 ·refine CJ (B3 ⟨by omega,by omega⟩ (CF hb h2 fun y i4 z4 y0 y1 h4=> ?_))
  refine XP y0 (by omega) ?_
  exact h _ (by rw [ByteArray.size_extract];omega)
 ·refine RX (l:=[⟨#[97]⟩,⟨#[98]⟩]) (by simp) (fun i=> ?_) ?_
  ·unfold gS
   rw [List.getD_eq_getElem?_getD]
   rcases i with _ | _ | i
   ·simp;decide
   ·simp;decide
   ·simp;decide
  ·refine h _ ?_
   unfold PO
   split
   ·have h1:=S6 [⟨#[97]⟩,⟨#[98]⟩] 2;have h2:=OK ((2:Nat):Int) ⟨#[]⟩
    rw [ByteArray.size_append]
    have e2:([⟨#[97]⟩,⟨#[98]⟩]:List ByteArray).length=2:=rfl
    rw [e2]
    omega
   ·exact Nat.zero_le _
theorem VM {L:List Int} {K:J2} (hb:SQ L) (h: ∀s:ByteArray,s.size≤5000→K [.string s] []):cl2 ⟨Tryz.prog,w0⟩ 18 F4.sg [] [tY L] K:=by
 refine F4.cl2 (VX hb fun z=>M5 hb (Nat.zero_le _) fun b i1 z1 h1=>JJ (fun _=> ?_) fun _=> ?_)
 ·exact V3 hb h
 ·exact UE hb h1 fun s i2 z2 hs h2=>h s (by omega)
end Go.Proofs.YtnhicpkhkaihoaaGreat.P
