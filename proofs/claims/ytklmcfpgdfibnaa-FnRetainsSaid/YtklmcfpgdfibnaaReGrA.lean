/- A part of the proof. -/
import Derived.Test.YtklmcfpgdfibnaaReRetB
namespace Go.Proofs.Ytklmcfpgdfibnaa.P
open Go Go.Proofs.Ytklmcfpgdfibnaa Go.Proofs.Ytklmcfpgdfibnaa.Eng
set_option linter.unusedVariables false
set_option maxHeartbeats 4000000
set_option linter.unusedVariables false
set_option linter.unusedSimpArgs false
attribute [local irreducible] prP gP gE gF AY ixW ldc ldg ldl stc stg scW mkW apW BD cl2 BQ CZ B9
variable {w0:World}
def toO (n:Nd):AG:=⟨n.live,n.gen,n.site,n.holds,n.roots,0,n.field,false⟩
abbrev osN (l:List Nd):List AG:=l.map toO
theorem Q8 {l:List Nd} {i:Nat} (hi:i<l.length):ob (osN l) i=toO (nd l i):=by
 have h2:i<(osN l).length:=by simpa using hi
 rw [←DA h2, ←QV hi]
 simp [osN]
theorem XW {a:List Nd} {b c:List T} {id:Int} {K:J2} (hid:F64 id) (hl:(a.length:Int)<2^62) (h:K [I (AB (osN a) id)] []):cl2 ⟨Try.prog,w0⟩ 119 F8.sg [I id] [tR tN a,b,c] K:=by
 obtain ⟨i1,i2⟩:=hid
 have ll:(osN a).length=a.length:=by simp
 refine F8.cl2 ?_
 unfold F8.txt
 simp only [AJ,AN,AQ,AR,AK,AE,AL,AI,AS,AP,AU,AT,AM,AO,BJ,BP,BM,BN,BO,BS,BL,A4,A5,A9,A8,BA,A7]
 by_cases h1:id<8
 ·rw [DE (.inl h1)] at h
  exact A6 (BC (BC (BC (JF h1 (DX h1 rfl (CG h))))))
 ·refine A6 (BC (BC (BC (HH h1 (C0 (EH h1 rfl (AW (fun h2=> ?_) fun h2=> ?_)))))))
  ·rw [DE (.inr (by omega))] at h;exact h
  ·have hlt:(id % 8).toNat<a.length:=by omega
   have eo:=Q8 (l:=a) hlt
   refine PT (by omega) (by omega) ?_
   have er:(I (id % 8):Value)=iv (id % 8).toNat:=by
    show I (id % 8)=I (((id % 8).toNat:Nat):Int)
    rw [Int.toNat_of_nonneg (by omega)]
   rw [er]
   refine AH hlt (jX hlt rfl ?_)
   cases hv:(nd a (id % 8).toNat).live with
   | false=>
     rw [FA (by omega) (.inl (by rw [eo];exact hv))] at h
     exact CC (BC (BC (BC (K7 (BC (K7 (BC (K7 (K7 (OU rfl (CG h)))))))))))
   | true=>
     refine CC (BC (BC (BC (KO (AH hlt (BC (KO (gT (c:=1) hlt (by decide) rfl (BC (KO (U4 (by omega) ⟨by omega,by omega⟩ (by omega) (KO (C0 (SP rfl ?_))))))))))))))
     refine AW (fun h3=> ?_) fun h3=> ?_
     ·rw [FA (by omega) (.inr (by rw [eo];exact h3))] at h;exact h
     ·rw [GG (by omega) (by omega) (by omega) (by rw [eo];exact hv) (by rw [eo];exact Classical.not_not.1 h3)] at h
      rw [←er];exact h
theorem QE {a:List Nd} {b c:List T} {id:Int} {K:J2} (hid:F64 id) (hl:(a.length:Int)<2^62) (h:K [I (AB (osN a) id)] []):cl2 ⟨Try.prog,w0⟩ 120 CX.sg [I id] [tR tN a,b,c] K:=by
 obtain ⟨i1,i2⟩:=hid
 have ll:(osN a).length=a.length:=by simp
 refine CX.cl2 ?_
 unfold CX.txt
 simp only [AJ,AN,AQ,AR,AK,AE,AL,AI,AS,AP,AU,AT,AM,AO,BJ,BP,BM,BN,BO,BS,BL,A4,A5,A9,A8,BA,A7]
 by_cases h1:id<8
 ·rw [DE (.inl h1)] at h
  exact A6 (BC (BC (BC (BC (BC (JF h1 (DX h1 rfl (CG h))))))))
 ·refine A6 (BC (BC (BC (BC (BC (HH h1 (C0 (EH h1 rfl (AW (fun h2=> ?_) fun h2=> ?_)))))))))
  ·rw [DE (.inr (by omega))] at h;exact h
  ·have hlt:(id % 8).toNat<a.length:=by omega
   have eo:=Q8 (l:=a) hlt
   refine PT (by omega) (by omega) ?_
   have er:(I (id % 8):Value)=iv (id % 8).toNat:=by
    show I (id % 8)=I (((id % 8).toNat:Nat):Int)
    rw [Int.toNat_of_nonneg (by omega)]
   rw [er]
   refine AH hlt (qE hlt ?_)
   have t0:tv (nxT (tN (nd a (id % 8).toNat)) 0)= .bool (nd a (id % 8).toNat).live:=rfl
   have t1:tv (nxT (tN (nd a (id % 8).toNat)) 1)=I (nd a (id % 8).toNat).gen:=rfl
   rw [t0]
   simp only [t1]
   cases hv:(nd a (id % 8).toNat).live with
   | false=>
     rw [FA (by omega) (.inl (by rw [eo];exact hv))] at h
     exact CC (BC (BC (BC (K7 (K7 (OU rfl (CG h)))))))
   | true=>
     refine CC (BC (BC (BC (KO (U4 (by omega) ⟨by omega,by omega⟩ (by omega) (KO (C0 (SP rfl ?_))))))))
     refine AW (fun h3=> ?_) fun h3=> ?_
     ·rw [FA (by omega) (.inr (by rw [eo];exact h3))] at h;exact h
     ·rw [GG (by omega) (by omega) (by omega) (by rw [eo];exact hv) (by rw [eo];exact Classical.not_not.1 h3)] at h
      rw [←er];exact h
def JW (os:List AG):Nat→Que:=pick fun i=>if (ob os i).live=true∧w64 ((ob os i).holds+(ob os i).roots)>0 then [((i:Int),(-1:Int))] else []
theorem jW {os:List AG} {n:Nat} {s:Int} (h:inQ (JW os n) s):0≤s∧s<n:=by
 obtain ⟨e,he,rfl⟩:=List.mem_map.1 h
 obtain ⟨i,hi,hx⟩:=LQ.1 he
 split at hx
 ·rw [List.mem_singleton.1 hx];simp only;omega
 ·cases hx
theorem YC {os:List AG} (hol:os.length=8) (hg: ∀i,i<8→(ob os i).live=true→1≤(ob os i).gen∧(ob os i).gen≤999): ∀n,n≤8→D4 os (-1) (pick (KY os) n)=JW os n
 | 0,_=>rfl
 | n+1,hn=>by
   have ih:=YC hol hg n (by omega)
   show (pick (KY os) n++KY os n).foldl _ []=JW os n++_
   rw [List.foldl_append]
   unfold D4 at ih
   rw [ih]
   unfold KY
   simp only
   by_cases hc:(ob os n).live=true∧w64 ((ob os n).holds+(ob os n).roots)>0
   ·rw [if_pos ⟨by omega,hc⟩,if_pos hc]
    simp only [List.foldl_cons,List.foldl_nil]
    rw [EO hol (by omega) hc.1 (hg n (by omega) hc.1).1 (hg n (by omega) hc.1).2]
    unfold DZ
    rw [if_neg]
    simp only [not_or]
    refine ⟨by omega,by omega,fun hi=> ?_⟩
    have:=jW hi
    omega
   ·rw [if_neg (fun hh=>hc hh.2),if_neg hc]
    simp
end Go.Proofs.Ytklmcfpgdfibnaa.P
