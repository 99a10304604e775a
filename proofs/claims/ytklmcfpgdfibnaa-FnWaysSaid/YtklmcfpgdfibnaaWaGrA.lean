/- A part of the proof. -/
import Derived.Test.YtklmcfpgdfibnaaWaRetB
namespace Go.Proofs.Ytklmcfpgdfibnaa.P
open Go Go.Proofs.Ytklmcfpgdfibnaa Go.Proofs.Ytklmcfpgdfibnaa.Eng
set_option linter.unusedVariables false
set_option maxHeartbeats 4000000
set_option linter.unusedVariables false
set_option linter.unusedSimpArgs false
attribute [local irreducible] prP gP gE gF AX ixW ldc ldg ldl stc stg scW mkW apW BE cl2 BK C2 CI
variable {w0:World}
def lJ (os:List AE):Nat→Que:=pick fun i=>if (ob os i).live=true∧w64 ((ob os i).holds+(ob os i).roots)>0 then [((i:Int),(-1:Int))] else []
theorem qC {os:List AE} {n:Nat} {s:Int} (h:inQ (lJ os n) s):0≤s∧s<n:=by
 obtain ⟨e,he,rfl⟩:=List.mem_map.1 h
 obtain ⟨i,hi,hx⟩:=LB.1 he
 split at hx
 ·rw [List.mem_singleton.1 hx];simp only;omega
 ·cases hx
theorem SU {os:List AE} (hol:os.length=8) (hg: ∀i,i<8→(ob os i).live=true→1≤(ob os i).gen∧(ob os i).gen≤999): ∀n,n≤8→CW os (-1) (pick (J9 os) n)=lJ os n
 | 0,_=>rfl
 | n+1,hn=>by
   have ih:=SU hol hg n (by omega)
   show (pick (J9 os) n++J9 os n).foldl _ []=lJ os n++_
   rw [List.foldl_append]
   unfold CW at ih
   rw [ih]
   unfold J9
   simp only
   by_cases hc:(ob os n).live=true∧w64 ((ob os n).holds+(ob os n).roots)>0
   ·rw [if_pos ⟨by omega,hc⟩,if_pos hc]
    simp only [List.foldl_cons,List.foldl_nil]
    rw [EZ hol (by omega) hc.1 (hg n (by omega) hc.1).1 (hg n (by omega) hc.1).2]
    unfold EI
    rw [if_neg]
    simp only [not_or]
    refine ⟨by omega,by omega,fun hi=> ?_⟩
    have:=qC hi
    omega
   ·rw [if_neg (fun hh=>hc hh.2),if_neg hc]
    simp
end Go.Proofs.Ytklmcfpgdfibnaa.P
