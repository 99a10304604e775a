/- A part of the proof. -/
import Derived.Test.YtklmcfpgdfibnaaPtHpX
namespace Go.Proofs.Ytklmcfpgdfibnaa.P
open Go Go.Proofs.Ytklmcfpgdfibnaa Go.Proofs.Ytklmcfpgdfibnaa.Eng
set_option linter.unusedVariables false
structure sP (os:List AU) (e:Nat):Prop where
 lt:e<8
 lv:(ob os e).live=true
 pos:0<(ob os e).holds+(ob os e).roots
def Cov (os:List AU) (L:List Int) (k:Nat):Prop:=(∃e,sP os e∧Reach os e k)∨ ∃x∈L, ∃s:Nat,AB os x=(s:Int)∧Reach os s k
def Gd (os:List AU) (L:List Int):Prop:= ∀k,k<8→(ob os k).live=true→Cov os L k
theorem Cov.mono {os:List AU} {L L':List Int} {k:Nat} (h: ∀x∈L,0≤AB os x→x∈L'):Cov os L k→Cov os L' k
 | .inl h'=> .inl h'
 | .inr ⟨x,hx,s,hs,hr⟩=> .inr ⟨x,h x hx (by omega),s,hs,hr⟩
theorem Gd.mono {os:List AU} {L L':List Int} (g:Gd os L) (h: ∀x∈L,0≤AB os x→x∈L'):Gd os L':=fun k hk hv=>(g k hk hv).mono h
theorem Reach.live {os:List AU} {s k:Nat} (h:Reach os s k) (hs:s<8∧(ob os s).live=true):k<8∧(ob os k).live=true:=
 h.closed (P:=fun k=>k<8∧(ob os k).live=true) hs fun _ _ _ hj=>⟨(CY hj).2.1,(CY hj).2.2.2.2⟩
theorem jR {os:List AU} {x:Int} {s:Nat} (h:AB os x=(s:Int)):s<8∧(ob os s).live=true:=by
 have hb:=BL (l:=os) (id:=x) (by omega)
 have e:(AB os x).toNat=s:=by omega
 rw [e] at hb
 exact ⟨hb.2.2.2.1,hb.2.2.2.2.1⟩
theorem M8 {os:List AU} {k:Nat} {x:Int}:x∈BN os k↔0≤x∧ ∃f∈(ob os k).field,AB os f=x:=by
 unfold BN
 simp only [List.mem_filter,List.mem_map,decide_eq_true_eq]
 exact ⟨fun ⟨h1,h2⟩=>⟨h2,h1⟩,fun ⟨h1,h2⟩=>⟨h2,h1⟩⟩
theorem Reach.KK {a b:List AU} {s k:Nat} {P:Nat→Prop} (h:Reach a s k) (hs:P s) (hc: ∀y,P y→ ∀j∈BN a y,j∈BN b y∧P j.toNat):Reach b s k∧P k:=by
 induction h with
 | refl=>exact ⟨.refl,hs⟩
 | step _ hj ih=>
   obtain ⟨h1,h2⟩:=hc _ ih.2 _ hj
   exact ⟨.step ih.1 h1,h2⟩
theorem kA {a b:List AU} (hl:a.length=b.length) (h: ∀i,(ob a i).live=(ob b i).live∧(ob a i).gen=(ob b i).gen∧(ob a i).field=(ob b i).field) (k:Nat):BN a k=BN b k:=by
 unfold BN
 rw [(h k).2.2]
 have:AB a=AB b:=funext fun x=>GS hl fun i _=>⟨(h i).1,(h i).2.1⟩
 rw [this]
theorem Gd.upd {a b:List AU} {L L':List Int} (g:Gd a L) (hl:a.length=b.length) (h: ∀i,(ob a i).live=(ob b i).live∧(ob a i).gen=(ob b i).gen∧(ob a i).field=(ob b i).field)
  (hx: ∀e,sP a e→sP b e∨ ∃x∈L',AB b x=(e:Int)) (hL: ∀x∈L,0≤AB a x→x∈L'):Gd b L':=fun k hk hv=>by
 have kr: ∀{s y},Reach a s y→Reach b s y:=fun hr=>(hr.KK (P:=fun _=>True) trivial fun y _ j hj=>⟨by rw [←kA hl h];exact hj,trivial⟩).1
 have sl: ∀x,AB b x=AB a x:=fun x=>(GS hl fun i _=>⟨(h i).1,(h i).2.1⟩).symm
 rcases g k hk (by rw [(h k).1];exact hv) with ⟨e,he,hr⟩ | ⟨x,hxL,s,hs,hr⟩
 ·rcases hx e he with he | ⟨x,hx,hs⟩
  ·exact .inl ⟨e,he,kr hr⟩
  ·exact .inr ⟨x,hx,e,hs,kr hr⟩
 ·exact .inr ⟨x,hL x hxL (by omega),s,by rw [sl];exact hs,kr hr⟩
theorem Gd.vT {a b:List AU} {L L':List Int} {w:Int} (g:Gd a L) (h: ∀i,(ob a i).live=(ob b i).live∧(ob a i).holds=(ob b i).holds∧(ob a i).roots=(ob b i).roots) (sl: ∀x,AB b x=AB a x)
  (hk: ∀y, ∀j∈BN a y,j∈BN b y∨j=AB b w) (hw:0≤AB b w→w∈L') (hL: ∀x∈L,x∈L'):Gd b L':=fun k k8 kv=>by
 have kr: ∀{s y},Reach a s y→Reach b s y∨ ∃t:Nat,AB b w=(t:Int)∧Reach b t y:=fun hr=>by
  induction hr with
  | refl=>exact .inl .refl
  | step hr hj ih=>
    rename_i y j
    have h0:=(CY hj).1
    rcases hk _ _ hj with h1 | h1
    ·rcases ih with ih | ⟨t,ht,ih⟩
     ·exact .inl (.step ih h1)
     ·exact .inr ⟨t,ht, .step ih h1⟩
    ·exact .inr ⟨j.toNat,by omega, .refl⟩
 have fin: ∀{s},Reach a s k→(Reach b s k→Cov b L' k)→Cov b L' k:=fun hr hc=>by
  rcases kr hr with hr | ⟨t,ht,hr⟩
  ·exact hc hr
  ·exact .inr ⟨w,hw (by omega),t,ht,hr⟩
 rcases g k k8 (by rw [(h k).1];exact kv) with ⟨e,he,hr⟩ | ⟨x,hx,s,hs,hr⟩
 ·exact fin hr fun hr=> .inl ⟨e,⟨he.lt,by rw [←(h e).1];exact he.lv,by rw [←(h e).2.1, ←(h e).2.2];exact he.pos⟩,hr⟩
 ·exact fin hr fun hr=> .inr ⟨x,hL x hx,s,by rw [sl];exact hs,hr⟩
theorem Gd.hold {os:List AU} {L L':List Int} {k:Nat} {v:AU} (g:Gd os L) (hk:k<os.length) (v1:v.live=(ob os k).live) (v2:v.gen=(ob os k).gen) (v3:v.field=(ob os k).field) (hx:0<v.holds+v.roots∨ ∃x∈L',AB os x=(k:Int)) (hL: ∀x∈L,x∈L'):Gd (os.set k v) L':=by
 have eo: ∀i,ob (os.set k v) i=if i=k then v else ob os i:=fun i=>G3 hk
 have sm: ∀i,(ob os i).live=(ob (os.set k v) i).live∧(ob os i).gen=(ob (os.set k v) i).gen∧(ob os i).field=(ob (os.set k v) i).field:=fun i=>by
  rw [eo];split
  ·rename_i hh;subst hh;exact ⟨v1.symm,v2.symm,v3.symm⟩
  ·exact ⟨rfl,rfl,rfl⟩
 refine g.upd (by simp) sm (fun e he=> ?_) fun x h _=>hL x h
 by_cases hek:e=k
 ·rcases hx with hx | ⟨x,hx,hs⟩
  ·exact .inl ⟨he.lt,by rw [←(sm e).1];exact he.lv,by rw [eo,if_pos hek];exact hx⟩
  ·exact .inr ⟨x,hx,by rw [←GS (by simp) fun i _=>⟨(sm i).1,(sm i).2.1⟩,hek];exact hs⟩
 ·exact .inl ⟨he.lt,by rw [←(sm e).1];exact he.lv,by rw [eo,if_neg hek];exact he.pos⟩
section
variable {os:List AU} {ns:Nat} {buf pd:List Int} {id:Int} {k:Nat}
theorem Gd.free (h:HP os ns buf (id::pd)) (hk:AB os id=(k:Int)) (hc:(ob os k).count≤1) (g:Gd os (buf++id::pd)):
  Gd (os.set k (B6 (ob os k).gen)) ((buf.filter fun x=>decide (x≠id))++(pd++(ob os k).field.filter fun x=>decide (0≤x))):=by
 obtain ⟨k8,kv,kid,kg1,kg2,kid8,kc,kc1,kF⟩:=h.at hk
 have hol:=h.ol
 have hlv:=(h.obj k k8).lv kv
 have he0:CE os id=0:=by omega
 have eo: ∀i,ob (os.set k (B6 (ob os k).gen)) i=if i=k then B6 (ob os k).gen else ob os i:=fun i=>G3 (by omega)
 have nof: ∀p,p<8→(ob os p).live=true→id∉(ob os p).field:=fun p hp hv=>VE he0 (by omega) hv
 have only: ∀x,AB os x=(k:Int)→x=id:=fun x hx=>by rw [M5 hx kg1 kg2,kid]
 have sl: ∀x,x≠id→AB (os.set k (B6 (ob os k).gen)) x=AB os x:=fun x hne=>by
  by_cases h8:x<8∨os.length≠8
  ·rw [HS h8,HS (by simpa using h8)]
  ·by_cases he:(x % 8).toNat=k
   ·have hnk:AB os x≠(k:Int):=fun hh=>hne (only x hh)
    have hneg:AB os x= -1:=by
     have hb:=BL (l:=os) (id:=x)
     unfold AB at hnk hb ⊢
     rw [if_neg h8] at hnk hb ⊢
     split
     ·rename_i hy
      rw [if_pos hy] at hnk
      omega
     ·rfl
    rw [hneg,HL (by rw [List.length_set];omega) (.inl (by rw [he,eo,if_pos rfl];rfl))]
   ·unfold AB
    rw [if_neg h8,if_neg (by simpa using h8),eo,if_neg he]
 have kk: ∀y,(y<8∧(ob os y).live=true∧y≠k)→ ∀j∈BN os y,j∈BN (os.set k (B6 (ob os k).gen)) y∧(j.toNat<8∧(ob os j.toNat).live=true∧j.toNat≠k):=fun y ⟨y8,yv,yk⟩ j hj=>by
  have hb:=CY hj
  obtain ⟨h0,f,hf,hs⟩:=M8.1 hj
  have hfi:f≠id:=fun he=>nof y y8 yv (he ▸ hf)
  refine ⟨M8.2 ⟨h0,f, ?_,by rw [sl f hfi];exact hs⟩,hb.2.1,hb.2.2.2.2,fun hjk=>hfi (only f (by omega))⟩
  rw [eo,if_neg yk];exact hf
 have c1: ∀{s y},Reach os s y→(s<8∧(ob os s).live=true∧s≠k)→Reach (os.set k (B6 (ob os k).gen)) s y:=fun hr hs=>(hr.KK (P:=fun y=>y<8∧(ob os y).live=true∧y≠k) hs kk).1
 have c2: ∀{y},Reach os k y→y=k∨ ∃x∈(ob os k).field.filter fun x=>decide (0≤x), ∃s:Nat,AB (os.set k (B6 (ob os k).gen)) x=(s:Int)∧Reach (os.set k (B6 (ob os k).gen)) s y∧(y<8∧(ob os y).live=true∧y≠k):=fun {y} hr=>by
  induction hr with
  | refl=>exact .inl rfl
  | step hr' hj ih=>
    rename_i y j
    right
    rcases ih with rfl | ⟨x,hx,s,hs,hr,hy⟩
    ·have hb:=CY hj
     obtain ⟨h0,f,hf,hs⟩:=M8.1 hj
     have hfi:f≠id:=fun he=>nof y k8 kv (he ▸ hf)
     have hfb:=BL (l:=os) (id:=f) (by omega)
     refine ⟨f,List.mem_filter.2 ⟨hf,by simp;omega⟩,j.toNat,by rw [sl f hfi];omega, .refl,hb.2.1,hb.2.2.2.2,fun hjk=>hfi (only f (by omega))⟩
    ·obtain ⟨h1,h2⟩:=kk y hy _ hj
     exact ⟨x,hx,s,hs, .step hr h1,h2⟩
 intro y y8 yv
 rw [eo] at yv
 by_cases hyk:y=k
 ·rw [if_pos hyk] at yv;cases yv
 rw [if_neg hyk] at yv
 rcases g y y8 yv with ⟨e,he,hr⟩ | ⟨x,hx,s,hs,hr⟩
 ·have hek:e≠k:=fun hh=>by have:=he.pos;rw [hh] at this;omega
  exact .inl ⟨e,⟨he.lt,by rw [eo,if_neg hek];exact he.lv,by rw [eo,if_neg hek];exact he.pos⟩,c1 hr ⟨he.lt,he.lv,hek⟩⟩
 ·have sv:=jR hs
  by_cases hsk:s=k
  ·subst hsk
   rcases c2 hr with h' | ⟨x,hx,s',hs',hr',_⟩
   ·exact absurd h' hyk
   ·exact .inr ⟨x,by simp only [List.mem_append];exact .inr (.inr hx),s',hs',hr'⟩
  ·have hxi:x≠id:=fun hh=>hsk (by rw [hh,hk] at hs;omega)
   refine .inr ⟨x, ?_,s,by rw [sl x hxi];exact hs,c1 hr ⟨sv.1,sv.2,hsk⟩⟩
   rcases List.mem_append.1 hx with hx | hx
   ·exact List.mem_append_left _ (List.mem_filter.2 ⟨hx,by simpa using hxi⟩)
   ·rcases List.mem_cons.1 hx with hx | hx
    ·exact absurd hx hxi
    ·simp [hx]
end
end Go.Proofs.Ytklmcfpgdfibnaa.P
