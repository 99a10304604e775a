/- A part of the proof. -/
import Derived.Test.YthapfcoajahegaaDoorReEngY
import Derived.Test.YthapfcoajahegaaDoorRePZ1
import Derived.Test.YthapfcoajahegaaDoorReShelf
import Derived.WalkKit
import Derived.ProofKit
import Derived.Below
import Derived.KernelRfl
namespace Go.Proofs.YthapfcoajahegaaDoor.P
open Go Go.Proofs Go.RowKit Go.Lib Go.Proofs.YthapfcoajahegaaDoor Go.Proofs.YthapfcoajahegaaDoor.Eng
set_option linter.unusedVariables false
def XM:ByteArray:=⟨#[111,107,32,100,101,97,100,32,114,97,110,103,101,32,102,117,108,108,32,99,111,117,110,116,32,110,111,110,101,32,115,105,116,101]⟩
def OK:List ByteArray:=[⟨#[111,107]⟩,⟨#[100,101,97,100]⟩,⟨#[114,97,110,103,101]⟩,⟨#[102,117,108,108]⟩,⟨#[99,111,117,110,116]⟩,⟨#[110,111,110,101]⟩,⟨#[115,105,116,101]⟩]
theorem oC:Lib.countB XM ⟨#[32]⟩=6:=by kernel_rfl
theorem oP:Lib.splitB ⟨#[32]⟩ 0 6 XM=OK:=by kernel_rfl
theorem qY (m:Int) (w:World) (hm:w.cell? ⟨0,0,none⟩=some (.int .i64 m)):
  Calls Tryd.prog 12 #[.string XM, .string ⟨#[32]⟩] w fun e w'=>e= .returned (.slice (some ⟨w.heap.size,0,none⟩) 7 7)∧w'=w.alloc (.cells (OK.map Value.string).toArray 9):=by
 have h:=Tryd.strings_Split XM ⟨#[32]⟩ m w (by decide) hm (by decide)
 rw [oC,oP] at h
 exact h
theorem sA (w:World) (j:Nat) (x:ByteArray) (h:OK[j]? =some x):(w.alloc (.cells (OK.map Value.string).toArray 9)).cell? ⟨w.heap.size,j,none⟩=some (.string x):=by
 rw [World.cell?_alloc_at _ _ _ _ rfl,List.getElem?_toArray,List.getElem?_map,h];rfl
theorem sC (m:Int) (w:World) (hm:w.cell? ⟨0,0,none⟩=some (.int .i64 m)) (j:Nat) (hj:j<7) (x:ByteArray) (h:OK[j]? =some x):
  Calls Tryd.prog 7 #[.int .i64 j] w fun e w'=>e= .returned (.string x)∧Below w.heap.size w w':=by
 have c:=qY m w hm
 have hc:=sA w j x h
 generalize hW:w.alloc (.cells (OK.map Value.string).toArray 9)=w1 at c hc
 have hb:Below w.heap.size w w1:=by rw [←hW];exact (Below.refl _ w).alloc (Nat.le_refl _) _
 have e1:(0:Int)≤j:=by omega
 have e2:(j:Int)≤6:=by omega
 have e3:(j:Int)<7:=by omega
 go_enter Tryd.func7,Tryd.ntmps7
 go_wp2_with (first | (go_at_call 12;refine c.mono ?_;rintro e w2 ⟨rfl,hw⟩;subst hw) | (go_at_call 11;go_in))
 go_ret
 exact ⟨rfl,hb⟩
theorem qF: ∀j:Nat,j<7→ ∃x,OK[j]? =some x∧x≠⟨#[]⟩
 | 0,_=>⟨_,rfl,by decide⟩
 | 1,_=>⟨_,rfl,by decide⟩
 | 2,_=>⟨_,rfl,by decide⟩
 | 3,_=>⟨_,rfl,by decide⟩
 | 4,_=>⟨_,rfl,by decide⟩
 | 5,_=>⟨_,rfl,by decide⟩
 | 6,_=>⟨_,rfl,by decide⟩
 | n+7,h=>absurd h (by omega)
theorem TJ {w0:World} {m:Int} (hm:w0.cell? ⟨0,0,none⟩=some (.int .i64 m)) (c:Int) {K:J2} (h0:0≤c) (h6:c≤6) (hK: ∀s:ByteArray,s≠⟨#[]⟩→K [.string s] []):cl2 ⟨Tryd.prog,w0⟩ 7 K8.sg [I c] [] K:=by
 obtain ⟨j,rfl⟩: ∃j:Nat,c=j:=⟨c.toNat,by omega⟩
 obtain ⟨x,hx,hne⟩:=qF j (by omega)
 refine nS (w:=x) (fun W hb=>sC m W ?_ j (by omega) x hx) (hK x hne)
 rw [Below.cell hb (World.block_lt_of_cell? _ _ hm)];exact hm
end Go.Proofs.YthapfcoajahegaaDoor.P
