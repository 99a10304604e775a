/- Sums, frames, logs, as they are written. -/
import Derived.Test.YtnhicpkhkaihoaaCeTxtH
import Derived.Test.YtnhicpkhkaihoaaCeHpA
namespace Go.Proofs.Ytnhicpkhkaihoaa.P
open Go Go.Proofs.Ytnhicpkhkaihoaa Go.Proofs.Ytnhicpkhkaihoaa.Eng
set_option linter.unusedVariables false
set_option maxHeartbeats 4000000
set_option linter.unusedVariables false
set_option linter.unusedSimpArgs false
attribute [local irreducible] prP gP gE gF cndP ixW ldc ldg ldl stc stg scW mkW apW loopP cl2 joinP pre2
variable {w0 : World}
abbrev U (n : Int) : Value := .int .u32 n
theorem prP_cv64 {k : IntKind} {n : Int} {K : Value → Prop} (hf : F64 n) (h : K (I n)) : prP (cvI .i64 (.int k n)) K :=
  prP_some (v := .int .i64 (IntKind.i64.wrap n)) rfl (by rw [wrap_64 hf]; exact h)
/-- Byte i of a text. -/
def by_ (s : ByteArray) (i : Nat) : Nat := (s.data.getD i 0).toNat
theorem by_lt (s : ByteArray) (i : Nat) : by_ s i < 256 := UInt8.toNat_lt _
theorem prP_ix {s : ByteArray} {i : Nat} {K : Value → Prop} (hi : i < s.size) (h : K (.int .u8 (by_ s i : Int))) : prP (ix (.string s) (iv i)) K := by
  have h0 : (0 : Int) ≤ (i : Int) := by omega
  have hg : s[i]? = some s[i] := getElem?_pos s i hi
  have hv : s[i].toNat = by_ s i := by
    have hs : i < s.data.size := hi
    simp only [by_, Array.getD, hs, dite_true]
    rfl
  have hx : ix (.string s) (iv i) = some (.int .u8 (by_ s i : Int)) := by
    show (if 0 ≤ (i : Int) then (s[(i : Int).toNat]?).map fun b => Value.int .u8 b.toNat else none) = _
    rw [if_pos h0, Int.toNat_natCast, hg]
    simp only [Option.map_some, hv]
  rw [hx]; exact prP_some rfl h
/-! ### Sums -/
def crcB (c : Nat) : Nat := if c % 2 = 1 then (c / 2) ^^^ 2197175160 else c / 2
def crcN : Nat → Nat → Nat
  | 0, c => c
  | k + 1, c => crcB (crcN k c)
def crcS (s : ByteArray) : Nat → Nat
  | 0 => 4294967295
  | i + 1 => crcN 8 (crcS s i ^^^ by_ s i)
def crc (s : ByteArray) : Nat := 4294967295 - crcS s s.size
/-! ### Numbers in four bytes -/
def fxL (n : Nat) : List Nat := [n / 16777216 % 256, n / 65536 % 256, n / 256 % 256, n % 256]
def FX (n : Nat) : ByteArray := bytesL (fxL n)
/-! ### Frames and logs -/
def frm (n : Int) (p : ByteArray) : ByteArray := if (0 ≤ n ∧ n ≤ 400) ∧ p.size ≤ 200 then ((V n ++ V p.size) ++ p) ++ FX (crc ((V n ++ V p.size) ++ p)) else ⟨#[]⟩
def magic : ByteArray := ⟨#[72, 76, 79, 71, 1]⟩
attribute [irreducible] frm crc FX
def payB (p : ByteArray) : Prop := 1 ≤ (p.size : Int) ∧ (p.size : Int) ≤ 200
instance (p : ByteArray) : Decidable (payB p) := inferInstanceAs (Decidable (_ ∧ _))
end Go.Proofs.Ytnhicpkhkaihoaa.P
