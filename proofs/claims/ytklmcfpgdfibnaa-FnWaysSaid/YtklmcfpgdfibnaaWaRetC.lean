/- A part of the proof. -/
import Derived.Test.YtklmcfpgdfibnaaWaGrA
namespace Go.Proofs.Ytklmcfpgdfibnaa.P
open Go Go.Proofs.Ytklmcfpgdfibnaa Go.Proofs.Ytklmcfpgdfibnaa.Eng
set_option linter.unusedVariables false
theorem aR {os:List AE} {x:Int}:x∈exts os↔ ∃i:Nat,i<os.length∧i<8∧(ob os i).live=true∧w64 ((ob os i).holds+(ob os i).roots)>0∧x=B6 i (ob os i).gen:=by
 unfold exts
 rw [LB]
 constructor
 ·rintro ⟨i,hi,h⟩
  unfold J9 at h
  split at h
  ·rename_i hc;exact ⟨i,hi,by omega,hc.2.1,hc.2.2,List.mem_singleton.1 h⟩
  ·cases h
 ·rintro ⟨i,hi,h8,hv,hw,rfl⟩
  refine ⟨i,hi, ?_⟩
  unfold J9
  rw [if_pos ⟨by omega,hv,hw⟩];simp
theorem QD.ne {os:List AE} {but:Int} {s k:Nat} (h:QD os but s k) (hs:(s:Int)≠but):(k:Int)≠but:=by
 cases h with
 | refl=>exact hs
 | step _ hj hb=>rwa [←(B4 hj).2.2.1]
theorem cW.ne {os:List AE} {but:Int} {ids:List Int} {k:Nat} (h:cW os but ids k):(k:Int)≠but:=by
 obtain ⟨x,_,s,_,hs,hr⟩:=h
 exact hr.ne hs
def sS (id f:Int):Int:=if f=id then -1 else f
structure iM (os os':List AE) (b:Nat) (id:Int):Prop where
 len:os'.length=os.length
 live: ∀i,(ob os' i).live=(ob os i).live
 gen: ∀i,(ob os' i).gen=(ob os i).gen
 field: ∀i,(ob os' i).field=(ob os i).field.map (sS id)
 holds: ∀i,w64 ((ob os' i).holds+(ob os' i).roots)=if i=b then 0 else w64 ((ob os i).holds+(ob os i).roots)
theorem iM.slot {os os':List AE} {b:Nat} {id:Int} (h:iM os os' b id) (v:Int):AA os' v=AA os v:=EE h.len fun i _=>⟨h.live i,h.gen i⟩
theorem iM.kids {os os':List AE} {b:Nat} {id:Int} (h:iM os os' b id) (hs:AA os id=(b:Int)) {k:Nat} {j:Int}:j∈BG os' k↔j∈BG os k∧j≠(b:Int):=by
 rw [FG,FG,h.field]
 constructor
 ·rintro ⟨h0,f,hf,e⟩
  obtain ⟨f',hf',rfl⟩:=List.mem_map.1 hf
  rw [h.slot] at e
  unfold sS at e
  split at e
  ·rw [O9] at e;omega
  ·rename_i hne
   refine ⟨⟨h0,f',hf',e⟩,fun hb=>hne ?_⟩
   exact QF (l:=os) (by omega) (by omega) (by omega)
 ·rintro ⟨⟨h0,f,hf,e⟩,hb⟩
  refine ⟨h0,f,List.mem_map.2 ⟨f,hf, ?_⟩,by rw [h.slot];exact e⟩
  unfold sS
  rw [if_neg]
  rintro rfl
  exact hb (by omega)
theorem iM.ext {os os':List AE} {b:Nat} {id:Int} (h:iM os os' b id) {x:Int}:x∈exts os'↔ ∃i:Nat,i≠b∧i<os.length∧i<8∧(ob os i).live=true∧w64 ((ob os i).holds+(ob os i).roots)>0∧x=B6 i (ob os i).gen:=by
 rw [aR]
 constructor
 ·rintro ⟨i,hi,h8,hv,hw,rfl⟩
  rw [h.holds] at hw
  split at hw
  ·omega
  ·rename_i hne
   exact ⟨i,hne,by rw [←h.len];exact hi,h8,by rw [←h.live];exact hv,hw,by rw [h.gen]⟩
 ·rintro ⟨i,hne,hi,h8,hv,hw,rfl⟩
  exact ⟨i,by rw [h.len];exact hi,h8,by rw [h.live];exact hv,by rw [h.holds,if_neg hne];exact hw,by rw [h.gen]⟩
theorem qV {os:List AE} {ids:List Int} {k:Nat}:cW os (-1) ids k↔RB os ids k:=by
 unfold cW RB
 constructor
 ·rintro ⟨v,hv,s,e,_,hr⟩;exact ⟨v,hv,s,e,PI.1 hr⟩
 ·rintro ⟨v,hv,s,e,hr⟩;exact ⟨v,hv,s,e,by omega,PI.2 hr⟩
end Go.Proofs.Ytklmcfpgdfibnaa.P
