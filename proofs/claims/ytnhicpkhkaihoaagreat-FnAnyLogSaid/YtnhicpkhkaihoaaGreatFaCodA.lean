/- A part of the proof. -/
import Derived.Test.YtnhicpkhkaihoaaGreatFaHpX
namespace Go.Proofs.YtnhicpkhkaihoaaGreat.P
open Go Go.Proofs.YtnhicpkhkaihoaaGreat Go.Proofs.YtnhicpkhkaihoaaGreat.Eng
set_option linter.unusedVariables false
theorem ZC {n:Int} (h0:0≤n) (h1:n<2^49):1≤(V n).size:=by
 obtain ⟨m,rfl⟩: ∃m:Nat,n=m:=⟨n.toNat,by omega⟩
 rw [Ah (by omega),HA]
 rcases Nat.eq_zero_or_pos (vd 6 m).length with h | h
 ·exact absurd (List.length_eq_zero_iff.1 h) (Ac 6 m)
 ·exact h
theorem Ag {x:Int} (h: -100000000000000≤x∧x≤100000000000000):0≤zg x∧zg x≤200000000000000:=by
 unfold zg;rw [if_pos (KR.2 h)];split <;> omega
def tl:Int→List Int→ByteArray
 | _,[]=>⟨#[]⟩
 | b,x::xs=>SI (x-b)++tl x xs
theorem vU (a:ByteArray):a++⟨#[]⟩=a:=by
 apply ByteArray.ext;rw [ByteArray.data_append];simp
theorem Da (p:ByteArray): ∀(b:Int) (xs:List Int),(stE (p,b) xs xs.length).1=p++tl b xs:=by
 have: ∀(xs:List Int) (p:ByteArray) (b:Int),(xs.foldl Fx (p,b)).1=p++tl b xs:=by
  intro xs
  induction xs with
  | nil=>intro p b;rw [tl,vU];rfl
  | cons x xs ih=>intro p b;rw [List.foldl_cons,Fx,ih,tl,ByteArray.append_assoc]
 intro b xs
 rw [stE,List.take_length,this]
theorem Cv {l:List ByteArray} {s:ByteArray} (h:s∈l):gS l (at_ l s).toNat=s∧0≤at_ l s∧at_ l s<l.length:=by
 have hx:l.idxOf s<l.length:=List.idxOf_lt_length_of_mem h
 rw [at_,if_pos h]
 refine ⟨?_,by omega,by omega⟩
 rw [Int.toNat_natCast, ←O0 hx]
 exact List.getElem_idxOf hx
theorem ZR {n:Int} {l:List ByteArray} {s:ByteArray} (h:(CC n l s).ok=true):s≠⟨#[]⟩∧HE n l (CC n l s).o (CC n l s).a=(s,(CC n l s).last,(CC n l s).sites):=by
 unfold CC at h ⊢
 split at h
 ·cases h
 ·rename_i e he
  split at h
  ·rename_i hok
   simp only [if_pos hok]
   obtain ⟨h1,h2⟩:=hok
   refine ⟨by rw [←h2];exact h1, ?_⟩
   rw [←h2]
  ·cases h
end Go.Proofs.YtnhicpkhkaihoaaGreat.P
