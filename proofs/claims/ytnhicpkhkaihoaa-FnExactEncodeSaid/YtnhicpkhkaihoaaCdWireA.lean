/- Sums, frames, logs, as they are written. -/
import Derived.Test.YtnhicpkhkaihoaaCdTxtH
import Derived.Test.YtnhicpkhkaihoaaCdHpA
namespace Go.Proofs.Ytnhicpkhkaihoaa.P
open Go Go.Proofs.Ytnhicpkhkaihoaa Go.Proofs.Ytnhicpkhkaihoaa.Eng
set_option linter.unusedVariables false
theorem loopP_un {F : J2 → J2} {xs : List Value} {cs : List (List T)} (h : ∀ R : J2, (∀ xs cs, F R xs cs → R xs cs) → F R xs cs) : loopP F xs cs := fun R hR => hR _ _ (h R hR)
set_option linter.unusedVariables false
set_option linter.unusedSimpArgs false
attribute [local irreducible] prP gP gE gF cndP ixW ldc ldg ldl stc stg scW mkW apW loopP cl2 joinP pre2
variable {w0 : World}
/-! ### Words of sums -/
theorem prP_xor64 {a b : Nat} {K : Value → Prop} (ha : a < 2 ^ 32) (hb : b < 2 ^ 32) (h : K (I ((a ^^^ b : Nat) : Int))) : prP (bnI .xor (I a) (I b)) K := by
  have hx : a ^^^ b < 2 ^ 32 := Nat.xor_lt_two_pow ha hb
  refine prP_some (v := .int .i64 (IntKind.i64.wrap (BitVec.ofInt 64 a ^^^ BitVec.ofInt 64 b).toNat)) rfl ?_
  have e : (BitVec.ofInt 64 (a : Int) ^^^ BitVec.ofInt 64 (b : Int)).toNat = a ^^^ b := by
    rw [BitVec.toNat_xor, BitVec.ofInt_natCast, BitVec.ofInt_natCast, BitVec.toNat_ofNat, BitVec.toNat_ofNat, Nat.mod_eq_of_lt (by omega), Nat.mod_eq_of_lt (by omega)]
  rw [e, wrap_64 ⟨by omega, by omega⟩]; exact h
abbrev U (n : Int) : Value := .int .u32 n
theorem prP_xor32 {a b : Nat} {K : Value → Prop} (ha : a < 2 ^ 32) (hb : b < 2 ^ 32) (h : K (U ((a ^^^ b : Nat) : Int))) : prP (bnI .xor (U a) (U b)) K := by
  have hx : a ^^^ b < 2 ^ 32 := Nat.xor_lt_two_pow ha hb
  refine prP_some (v := .int .u32 (IntKind.u32.wrap (BitVec.ofInt 32 a ^^^ BitVec.ofInt 32 b).toNat)) rfl ?_
  have e : (BitVec.ofInt 32 (a : Int) ^^^ BitVec.ofInt 32 (b : Int)).toNat = a ^^^ b := by
    rw [BitVec.toNat_xor, BitVec.ofInt_natCast, BitVec.ofInt_natCast, BitVec.toNat_ofNat, BitVec.toNat_ofNat, Nat.mod_eq_of_lt (by omega), Nat.mod_eq_of_lt (by omega)]
  rw [e, IntKind.wrap_u32, Int.emod_eq_of_lt (by omega) (by omega)]; exact h
theorem prP_and1 {a : Nat} {K : Value → Prop} (ha : a < 2 ^ 32) (h : K (U ((a % 2 : Nat) : Int))) : prP (bnI .and (U a) (U 1)) K := by
  refine prP_some (v := .int .u32 (IntKind.u32.wrap (BitVec.ofInt 32 a &&& BitVec.ofInt 32 1).toNat)) rfl ?_
  have e : (BitVec.ofInt 32 (a : Int) &&& BitVec.ofInt 32 1).toNat = a % 2 := by
    rw [BitVec.toNat_and, BitVec.ofInt_natCast, BitVec.toNat_ofNat, Nat.mod_eq_of_lt (by omega)]
    exact Nat.and_one_is_mod a
  rw [e, IntKind.wrap_u32, Int.emod_eq_of_lt (by omega) (by omega)]; exact h
theorem prP_shr1 {a : Nat} {K : Value → Prop} (h : K (U ((a / 2 : Nat) : Int))) : prP (bnI .shr (U a) (.int .u64 1)) K := by
  refine prP_some (v := .int .u32 ((a : Int).fdiv (2 ^ min (1 : Int).toNat 32))) rfl ?_
  have e : (a : Int).fdiv (2 ^ min (1 : Int).toNat 32) = ((a / 2 : Nat) : Int) := by
    show (a : Int).fdiv 2 = _
    rw [Int.fdiv_eq_ediv_of_nonneg _ (by omega)]; omega
  rw [e]; exact h
theorem prP_eqU {a b : Int} {K : Value → Prop} (h : K (.bool (decide (a = b)))) : prP (bnI .eql (U a) (U b)) K := prP_some rfl h
theorem prP_not32 {a : Nat} {K : Value → Prop} (ha : a < 2 ^ 32) (h : K (U ((4294967295 - a : Nat) : Int))) : prP (un .xor (U a)) K := by
  refine prP_some (v := .int .u32 (IntKind.u32.wrap (BitVec.ofInt 32 4294967295 ^^^ BitVec.ofInt 32 a).toNat)) rfl ?_
  have e : (BitVec.ofInt 32 4294967295 ^^^ BitVec.ofInt 32 (a : Int)).toNat = 4294967295 - a := by
    have h1 : BitVec.ofInt 32 4294967295 = BitVec.allOnes 32 := by decide
    rw [h1, BitVec.xor_comm, BitVec.xor_allOnes, BitVec.toNat_not, BitVec.ofInt_natCast, BitVec.toNat_ofNat, Nat.mod_eq_of_lt (by omega)]
  rw [e, IntKind.wrap_u32, Int.emod_eq_of_lt (by omega) (by omega)]; exact h
theorem prP_cv64 {k : IntKind} {n : Int} {K : Value → Prop} (hf : F64 n) (h : K (I n)) : prP (cvI .i64 (.int k n)) K :=
  prP_some (v := .int .i64 (IntKind.i64.wrap n)) rfl (by rw [wrap_64 hf]; exact h)
theorem prP_cv32 {k : IntKind} {n : Nat} {K : Value → Prop} (hf : n < 2 ^ 32) (h : K (U n)) : prP (cvI .u32 (.int k n)) K :=
  prP_some (v := .int .u32 (IntKind.u32.wrap n)) rfl (by rw [IntKind.wrap_u32, Int.emod_eq_of_lt (by omega) (by omega)]; exact h)
/-- Byte i of a text. -/
def by_ (s : ByteArray) (i : Nat) : Nat := (s.data.getD i 0).toNat
theorem by_lt (s : ByteArray) (i : Nat) : by_ s i < 256 := UInt8.toNat_lt _
theorem prP_ix {s : ByteArray} {i : Nat} {K : Value → Prop} (hi : i < s.size) (h : K (.int .u8 (by_ s i : Int))) : prP (ix (.string s) (iv i)) K := by
  have h0 : (0 : Int) ≤ (i : Int) := by omega
  have hg : s[i]? = some s[i] := getElem?_pos s i hi
  have hv : s[i].toNat = by_ s i := by
    have hs : i < s.data.size := hi
    simp only [by_, Array.getD, hs, dite_true]
    rfl
  have hx : ix (.string s) (iv i) = some (.int .u8 (by_ s i : Int)) := by
    show (if 0 ≤ (i : Int) then (s[(i : Int).toNat]?).map fun b => Value.int .u8 b.toNat else none) = _
    rw [if_pos h0, Int.toNat_natCast, hg]
    simp only [Option.map_some, hv]
  rw [hx]; exact prP_some rfl h
/-! ### Sums -/
def crcB (c : Nat) : Nat := if c % 2 = 1 then (c / 2) ^^^ 2197175160 else c / 2
def crcN : Nat → Nat → Nat
  | 0, c => c
  | k + 1, c => crcB (crcN k c)
def crcS (s : ByteArray) : Nat → Nat
  | 0 => 4294967295
  | i + 1 => crcN 8 (crcS s i ^^^ by_ s i)
theorem crcB_lt {c : Nat} (h : c < 2 ^ 32) : crcB c < 2 ^ 32 := by
  unfold crcB; split
  · exact Nat.xor_lt_two_pow (by omega) (by omega)
  · omega
theorem crcN_lt {c : Nat} (h : c < 2 ^ 32) : ∀ k, crcN k c < 2 ^ 32
  | 0 => h
  | k + 1 => crcB_lt (crcN_lt h k)
theorem crcS_lt (s : ByteArray) : ∀ i, crcS s i < 2 ^ 32
  | 0 => by show (4294967295 : Nat) < 2 ^ 32; omega
  | i + 1 => crcN_lt (Nat.xor_lt_two_pow (crcS_lt s i) (by have := by_lt s i; omega)) 8
def crc (s : ByteArray) : Nat := 4294967295 - crcS s s.size
theorem crc_lt (s : ByteArray) : crc s < 2 ^ 32 := by unfold crc; omega
theorem impl_Crc_c {s : ByteArray} {K : J2} (hs : (s.size : Int) < 2 ^ 62) (h : K [I (crc s)] []) : cl2 ⟨Try.prog, w0⟩ 207 impl_Crc.sg [.string s] [] K := by
  refine impl_Crc.cl2 ?_
  unfold impl_Crc.txt
  refine loopP_from (fun i => [.string s, U (crcS s i), iv i]) (fun _ => []) s.size (fun _ => True) rfl rfl trivial (fun R i hi _ hR => ?_)
  have hc := crcS_lt s i
  refine prP_lnS (prP_lss (cndP_d (fun hlt => ?_) fun hge => ?_))
  · have hlt : i < s.size := by omega
    replace hR := hR hlt trivial
    have hb := by_lt s i
    have hx : crcS s i ^^^ by_ s i < 2 ^ 32 := Nat.xor_lt_two_pow hc (by omega)
    refine prP_ix hlt (prP_cv32 (by omega) (prP_xor32 hc (by omega) ?_))
    refine loopP_from (fun k => [.string s, U (crcN k (crcS s i ^^^ by_ s i)), iv i, iv k]) (fun _ => []) 8 (fun _ => True) rfl rfl trivial (fun R2 k hk _ hR2 => ?_)
    have hn := crcN_lt hx k
    refine prP_lss (cndP_d (fun hlt2 => ?_) fun hge2 => ?_)
    · have hlt2 : k < 8 := by omega
      replace hR2 := hR2 hlt2 trivial
      rw [crcN, crcB] at hR2
      refine joinP_k (prP_and1 hn (prP_shr1 (prP_eqU (cndP_d (fun ho => ?_) fun ho => ?_))))
      · rw [if_pos (by omega)] at hR2
        exact prP_xor32 (b := 2197175160) (by omega) (by omega) (prP_inc (by omega) hR2)
      · rw [if_neg (by omega)] at hR2
        exact prP_inc (by omega) hR2
    · have : k = 8 := by omega
      subst this
      exact prP_inc (by omega) hR
  · have : i = s.size := by omega
    subst this
    exact prP_not32 hc (prP_cv64 ⟨by omega, by omega⟩ h)
theorem spec_Crc_c {s : ByteArray} {K : J2} (hs : (s.size : Int) < 2 ^ 62) (h : K [I (crc s)] []) : cl2 ⟨Try.prog, w0⟩ 205 spec_Crc.sg [.string s] [] K := by
  refine spec_Crc.cl2 ?_
  unfold spec_Crc.txt
  refine loopP_from (fun i => [.string s, I (crcS s i), iv i]) (fun _ => []) s.size (fun _ => True) rfl rfl trivial (fun R i hi _ hR => ?_)
  have hc := crcS_lt s i
  refine prP_lnS (prP_lss (cndP_d (fun hlt => ?_) fun hge => ?_))
  · have hlt : i < s.size := by omega
    replace hR := hR hlt trivial
    have hb := by_lt s i
    have hx : crcS s i ^^^ by_ s i < 2 ^ 32 := Nat.xor_lt_two_pow hc (by omega)
    refine prP_ix hlt (prP_cv64 ⟨by omega, by omega⟩ (prP_xor64 hc (by omega) ?_))
    refine loopP_from (fun k => [.string s, I (crcN k (crcS s i ^^^ by_ s i)), iv i, iv k]) (fun _ => []) 8 (fun _ => True) rfl rfl trivial (fun R2 k hk _ hR2 => ?_)
    have hn := crcN_lt hx k
    refine prP_lss (cndP_d (fun hlt2 => ?_) fun hge2 => ?_)
    · have hlt2 : k < 8 := by omega
      replace hR2 := hR2 hlt2 trivial
      rw [crcN, crcB] at hR2
      refine joinP_k (prP_rem (by omega) (by omega) (prP_quo (by omega) ⟨by omega, by omega⟩ (by omega) (prP_eqd (cndP_d (fun ho => ?_) fun ho => ?_))))
      · rw [if_pos (by omega)] at hR2
        exact prP_xor64 (a := crcN k (crcS s i ^^^ by_ s i) / 2) (b := 2197175160) (by omega) (by omega) (prP_inc (by omega) hR2)
      · rw [if_neg (by omega)] at hR2
        exact prP_inc (by omega) hR2
    · have : k = 8 := by omega
      subst this
      exact prP_inc (by omega) hR
  · have : i = s.size := by omega
    subst this
    refine prP_sub ⟨by omega, by omega⟩ ?_
    have e : (4294967295 : Int) - (crcS s s.size : Int) = (crc s : Int) := by unfold crc; omega
    rw [e]; exact h
/-! ### Numbers in four bytes -/
def fxL (n : Nat) : List Nat := [n / 16777216 % 256, n / 65536 % 256, n / 256 % 256, n % 256]
def FX (n : Nat) : ByteArray := bytesL (fxL n)
theorem FX_size (n : Nat) : (FX n).size = 4 := by rw [FX, bytesL_size]; rfl
theorem prP_cv8 {k : IntKind} {n : Nat} {K : Value → Prop} (h : K (.int .u8 ((n % 256 : Nat) : Int))) : prP (cvI .u8 (.int k n)) K :=
  prP_some (v := .int .u8 (IntKind.u8.wrap n)) rfl (by rw [IntKind.wrap_u8]; exact h)
theorem prP_cv8' {k : IntKind} {n : Int} {m : Nat} {K : Value → Prop} (hn : n % 256 = m) (h : K (.int .u8 (m : Int))) : prP (cvI .u8 (.int k n)) K :=
  prP_some (v := .int .u8 (IntKind.u8.wrap n)) rfl (by rw [IntKind.wrap_u8, hn]; exact h)
theorem prP_shrV {a m : Nat} {b : Int} {k : Nat} {K : Value → Prop} (hb : b = m) (hm : m ≤ 64) (hk : a / 2 ^ m = k) (h : K (I (k : Int))) : prP (bnI .shr (I a) (I b)) K := by
  subst hb
  have e : bnI .shr (I a) (I (m : Int)) = some (.int .i64 ((a : Int).fdiv (2 ^ min (m : Int).toNat 64))) := by
    show (if (m : Int) < 0 then none else _) = _
    rw [if_neg (by omega)]; rfl
  have e2 : (a : Int).fdiv (2 ^ min (m : Int).toNat 64) = (k : Int) := by
    rw [Int.toNat_natCast, Nat.min_eq_left hm, Int.fdiv_eq_ediv_of_nonneg _ (by exact Int.le_of_lt (Int.pow_pos (by omega))), ← hk]
    simp
  rw [e, e2]; exact prP_some rfl h
theorem prP_shl32 {b : Int} {K : Value → Prop} (hb : b = 32) (h : K (I 4294967296)) : prP (bnI .shl (I 1) (I b)) K := by
  subst hb
  exact prP_some (v := .int .i64 4294967296) rfl h
theorem loopP_u {F : J2 → J2} {xs : List Value} {cs : List (List T)} (h : ∀ R : J2, (∀ xs cs, F R xs cs → R xs cs) → F R xs cs) : loopP F xs cs := loopP_un h
theorem bytesL_app (a b : List Nat) : bytesL (a ++ b) = bytesL a ++ bytesL b := by
  have : ∀ (b : List Nat) (x y : ByteArray), b.foldl (fun b n => b.push (UInt8.ofNat n)) (x ++ y) = x ++ b.foldl (fun b n => b.push (UInt8.ofNat n)) y := by
    intro b
    induction b with
    | nil => intro x y; rfl
    | cons n b ih =>
      intro x y
      rw [List.foldl_cons, List.foldl_cons, ← ih]
      congr 1
      apply ByteArray.ext
      simp [ByteArray.push]
  rw [bytesL, List.foldl_append, ← bytesL, bytesL]
  have h := this b (a.foldl (fun b n => b.push (UInt8.ofNat n)) ByteArray.empty) ByteArray.empty
  rw [ByteArray.append_empty] at h
  exact h
theorem b2T_1 {n : Nat} {K : Value → Prop} (h : K (.string (bytesL [n]))) : prP (b2T [T.c (.int .u8 (n : Int))]) K := by
  have : [T.c (.int .u8 (n : Int))] = tB [n] := rfl
  rw [this, b2T_tB]; exact prP_some rfl h
theorem impl_Fixed_c {n : Nat} {K : J2} (hn : n < 2 ^ 32) (h : K [.string (FX n)] []) : cl2 ⟨Try.prog, w0⟩ 206 impl_Fixed.sg [I n, I 4] [] K := by
  refine impl_Fixed.cl2 ?_
  unfold impl_Fixed.txt
  have fin : ∀ {K : J2}, K [.string (FX n)] [] → prP (b2T ((((([] ++ [T.c (.int .u8 ((n / 16777216 % 256 : Nat) : Int))]) ++ [T.c (.int .u8 ((n / 65536 % 256 : Nat) : Int))]) ++ [T.c (.int .u8 ((n / 256 % 256 : Nat) : Int))]) ++ [T.c (.int .u8 ((n % 256 : Nat) : Int))]))) fun t => K [t] [] := fun h => by
    have : (((([] ++ [T.c (.int .u8 ((n / 16777216 % 256 : Nat) : Int))]) ++ [T.c (.int .u8 ((n / 65536 % 256 : Nat) : Int))]) ++ [T.c (.int .u8 ((n / 256 % 256 : Nat) : Int))]) ++ [T.c (.int .u8 ((n % 256 : Nat) : Int))]) = tB (fxL n) := rfl
    rw [this, b2T_tB]; exact prP_some rfl h
  repeat' (first | refine impl_in_d ?_ | refine prP_shl32 (by omega) ?_ | refine prP_mul ⟨by omega, by omega⟩ ?_ | refine gE_x ?_ | refine gE_u ?_ | refine gP_u ?_ | refine gP_TT ?_ | refine gP_FF ?_ | refine gP_TF ?_ | refine gP_FT ?_ | refine gP_yt (by first | with_reducible assumption | omega) ?_ | refine gP_nt (by first | with_reducible assumption | omega) ?_ | refine gP_yf (by first | with_reducible assumption | omega) ?_ | refine gP_nf (by first | with_reducible assumption | omega) ?_ | refine gP_on (by with_reducible assumption) ?_ | refine gP_offt (by with_reducible assumption) ?_ | refine gP_offf (by with_reducible assumption) ?_ | refine pk_t (by with_reducible assumption) rfl ?_ | refine pk_f (by with_reducible assumption) rfl ?_ | refine pk_y (by first | with_reducible assumption | omega) rfl ?_ | refine pk_n (by first | with_reducible assumption | omega) rfl ?_ | refine pk_T rfl ?_ | refine pk_F rfl ?_ | refine cndP_T ?_ | refine cndP_F ?_ | refine cndP_yes (by first | with_reducible assumption | omega) ?_ | refine cndP_no (by first | with_reducible assumption | omega) ?_ | refine cndP_on (by with_reducible assumption) ?_ | refine cndP_off (by with_reducible assumption) ?_ | refine prP_lss ?_ | refine prP_leq ?_ | refine prP_gtr ?_ | refine prP_geq ?_ | refine prP_eqd ?_ | refine prP_ned ?_ | refine prP_notnd ?_ | refine prP_notd ?_ | refine prP_lnS ?_ | refine prP_inc (by omega) ?_ | refine prP_add ⟨by omega, by omega⟩ ?_ | refine prP_sub ⟨by omega, by omega⟩ ?_ | refine prP_addw ?_ | refine prP_subw ?_ | refine prP_rem (by omega) (by omega) ?_ | refine prP_quo (by omega) ⟨by omega, by omega⟩ (by omega) ?_ | refine prP_eqSd ?_ | refine prP_neSd ?_ | refine prP_catS (by first | omega | (simp only [ByteArray.size_append]; omega)) ?_ | refine prP_eqB ?_ | refine prP_neB ?_ | refine ixW_iv (by omega) ?_ | refine ixW_c (by omega) (by omega) ?_ | refine ldI (by omega) ?_ | refine ldS (by omega) ?_ | refine ldg_ob (by omega) ?_ | refine ldg_wk (by omega) ?_ | refine ldg_po (by omega) ?_ | refine ldg_an (by omega) ?_ | refine ldg_nd (by omega) ?_ | refine ldc_ob (by omega) (by decide) rfl ?_ | refine ldc_ob0 (by omega) rfl ?_ | refine ldc_wk (by omega) (by decide) rfl ?_ | refine ldc_wk0 (by omega) rfl ?_ | refine ldc_po (by omega) (by decide) rfl ?_ | refine ldc_po0 (by omega) rfl ?_ | refine ldc_an (by omega) (by decide) rfl ?_ | refine ldc_an0 (by omega) rfl ?_ | refine ldc_nd (by omega) (by decide) rfl ?_ | refine ldc_nd0 (by omega) rfl ?_ | refine ldf_ob (by omega) (by omega) ?_ | refine ldl_ob (by omega) ?_ | refine ldf_nd (by omega) (by omega) ?_ | refine ldl_nd (by omega) ?_ | refine ldf_an (by omega) (by omega) ?_ | refine ldl_an (by omega) ?_ | refine ldg_tR (by omega) rfl rfl ?_ | refine ldc_tI (by omega) ?_ | refine ldc_tS (by omega) ?_ | refine ldc_tR (by omega) (by decide) rfl ?_ | refine ldc_tR0 (by omega) rfl ?_ | refine apW_p (by first | exact flat_tI _ | exact flat_tS _ | exact flat_tW _ | exact flat_tP _ | rfl) (by omega) ?_ | refine apW_n (by omega) ?_ | refine cndP_d (fun _ => ?_) (fun _ => ?_) | refine pk_sd rfl rfl (fun _ => ?_) (fun _ => ?_) | refine pk_sb rfl rfl (fun _ => ?_) (fun _ => ?_) | refine gP_dt (fun _ => ?_) (fun _ => ?_) | refine gP_df (fun _ => ?_) (fun _ => ?_) | refine cndP_i (fun _ => ?_) (fun _ => ?_) | refine gP_ct (fun _ => ?_) (fun _ => ?_) | refine gP_cf (fun _ => ?_) (fun _ => ?_) | refine prP_not ?_ | simp only [cnt_tO, cnt_tW, cnt_tP, cnt_tA, cnt_tN, cnt_tI, cnt_tS, cnt1_1, cnt1_0, cnt2_1, cnt3_1, cnt5_1, cnt6_1, cnt8_1, nx_0, nx_1, nx_2, nx_3, nx_4, nx_5, nx_6, nxc_0, nxc_1, nxc_2, nxc_3, nxc_4, nxc_5])
  refine loopP_u fun R hR => ?_
  repeat' (first | refine hR _ _ ?_ | refine prP_shrV (m := 24) (k := n / 16777216) (by omega) (by omega) (by omega) ?_ | refine prP_shrV (m := 16) (k := n / 65536) (by omega) (by omega) (by omega) ?_ | refine prP_shrV (m := 8) (k := n / 256) (by omega) (by omega) (by omega) ?_ | refine prP_shrV (m := 0) (k := n) (by omega) (by omega) (by omega) ?_ | refine prP_cv8 ?_ | refine prP_mul ⟨by omega, by omega⟩ ?_ | exact fin h | refine apW_p rfl (by simp [cnt, nxc]) ?_ | refine gE_x ?_ | refine gE_u ?_ | refine gP_u ?_ | refine gP_TT ?_ | refine gP_FF ?_ | refine gP_TF ?_ | refine gP_FT ?_ | refine gP_yt (by first | with_reducible assumption | omega) ?_ | refine gP_nt (by first | with_reducible assumption | omega) ?_ | refine gP_yf (by first | with_reducible assumption | omega) ?_ | refine gP_nf (by first | with_reducible assumption | omega) ?_ | refine gP_on (by with_reducible assumption) ?_ | refine gP_offt (by with_reducible assumption) ?_ | refine gP_offf (by with_reducible assumption) ?_ | refine pk_t (by with_reducible assumption) rfl ?_ | refine pk_f (by with_reducible assumption) rfl ?_ | refine pk_y (by first | with_reducible assumption | omega) rfl ?_ | refine pk_n (by first | with_reducible assumption | omega) rfl ?_ | refine pk_T rfl ?_ | refine pk_F rfl ?_ | refine cndP_T ?_ | refine cndP_F ?_ | refine cndP_yes (by first | with_reducible assumption | omega) ?_ | refine cndP_no (by first | with_reducible assumption | omega) ?_ | refine cndP_on (by with_reducible assumption) ?_ | refine cndP_off (by with_reducible assumption) ?_ | refine prP_lss ?_ | refine prP_leq ?_ | refine prP_gtr ?_ | refine prP_geq ?_ | refine prP_eqd ?_ | refine prP_ned ?_ | refine prP_notnd ?_ | refine prP_notd ?_ | refine prP_lnS ?_ | refine prP_inc (by omega) ?_ | refine prP_add ⟨by omega, by omega⟩ ?_ | refine prP_sub ⟨by omega, by omega⟩ ?_ | refine prP_addw ?_ | refine prP_subw ?_ | refine prP_rem (by omega) (by omega) ?_ | refine prP_quo (by omega) ⟨by omega, by omega⟩ (by omega) ?_ | refine prP_eqSd ?_ | refine prP_neSd ?_ | refine prP_catS (by first | omega | (simp only [ByteArray.size_append]; omega)) ?_ | refine prP_eqB ?_ | refine prP_neB ?_ | refine ixW_iv (by omega) ?_ | refine ixW_c (by omega) (by omega) ?_ | refine ldI (by omega) ?_ | refine ldS (by omega) ?_ | refine ldg_ob (by omega) ?_ | refine ldg_wk (by omega) ?_ | refine ldg_po (by omega) ?_ | refine ldg_an (by omega) ?_ | refine ldg_nd (by omega) ?_ | refine ldc_ob (by omega) (by decide) rfl ?_ | refine ldc_ob0 (by omega) rfl ?_ | refine ldc_wk (by omega) (by decide) rfl ?_ | refine ldc_wk0 (by omega) rfl ?_ | refine ldc_po (by omega) (by decide) rfl ?_ | refine ldc_po0 (by omega) rfl ?_ | refine ldc_an (by omega) (by decide) rfl ?_ | refine ldc_an0 (by omega) rfl ?_ | refine ldc_nd (by omega) (by decide) rfl ?_ | refine ldc_nd0 (by omega) rfl ?_ | refine ldf_ob (by omega) (by omega) ?_ | refine ldl_ob (by omega) ?_ | refine ldf_nd (by omega) (by omega) ?_ | refine ldl_nd (by omega) ?_ | refine ldf_an (by omega) (by omega) ?_ | refine ldl_an (by omega) ?_ | refine ldg_tR (by omega) rfl rfl ?_ | refine ldc_tI (by omega) ?_ | refine ldc_tS (by omega) ?_ | refine ldc_tR (by omega) (by decide) rfl ?_ | refine ldc_tR0 (by omega) rfl ?_ | refine apW_p (by first | exact flat_tI _ | exact flat_tS _ | exact flat_tW _ | exact flat_tP _ | rfl) (by omega) ?_ | refine apW_n (by omega) ?_ | refine cndP_d (fun _ => ?_) (fun _ => ?_) | refine pk_sd rfl rfl (fun _ => ?_) (fun _ => ?_) | refine pk_sb rfl rfl (fun _ => ?_) (fun _ => ?_) | refine gP_dt (fun _ => ?_) (fun _ => ?_) | refine gP_df (fun _ => ?_) (fun _ => ?_) | refine cndP_i (fun _ => ?_) (fun _ => ?_) | refine gP_ct (fun _ => ?_) (fun _ => ?_) | refine gP_cf (fun _ => ?_) (fun _ => ?_) | refine prP_not ?_ | simp only [cnt_tO, cnt_tW, cnt_tP, cnt_tA, cnt_tN, cnt_tI, cnt_tS, cnt1_1, cnt1_0, cnt2_1, cnt3_1, cnt5_1, cnt6_1, cnt8_1, nx_0, nx_1, nx_2, nx_3, nx_4, nx_5, nx_6, nxc_0, nxc_1, nxc_2, nxc_3, nxc_4, nxc_5])
theorem bytesL1 (n : Nat) : (bytesL [n]).size = 1 := by rw [bytesL_size]; rfl
theorem spec_Fixed_c {n : Nat} {K : J2} (hn : n < 2 ^ 32) (h : K [.string (FX n)] []) : cl2 ⟨Try.prog, w0⟩ 204 spec_Fixed.sg [I n, I 4] [] K := by
  refine spec_Fixed.cl2 ?_
  unfold spec_Fixed.txt
  have e : FX n = bytesL [n / 256 / 256 / 256 % 256] ++ (bytesL [n / 256 / 256 % 256] ++ (bytesL [n / 256 % 256] ++ (bytesL [n % 256] ++ ⟨#[]⟩))) := by
    have e0 : (⟨#[]⟩ : ByteArray) = bytesL [] := rfl
    rw [e0, ← bytesL_app, ← bytesL_app, ← bytesL_app, ← bytesL_app]
    simp only [List.cons_append, List.nil_append, FX, fxL]
    congr 2
    · omega
    · congr 1; omega
  rw [e] at h
  have z0 : (⟨#[]⟩ : ByteArray).size = 0 := rfl
  have z1 := bytesL1
  repeat' (first | refine spec_l1In_d ?_ | refine gE_x ?_ | refine gE_u ?_ | refine gP_u ?_ | refine gP_TT ?_ | refine gP_FF ?_ | refine gP_TF ?_ | refine gP_FT ?_ | refine gP_yt (by first | with_reducible assumption | omega) ?_ | refine gP_nt (by first | with_reducible assumption | omega) ?_ | refine gP_yf (by first | with_reducible assumption | omega) ?_ | refine gP_nf (by first | with_reducible assumption | omega) ?_ | refine gP_on (by with_reducible assumption) ?_ | refine gP_offt (by with_reducible assumption) ?_ | refine gP_offf (by with_reducible assumption) ?_ | refine pk_t (by with_reducible assumption) rfl ?_ | refine pk_f (by with_reducible assumption) rfl ?_ | refine pk_y (by first | with_reducible assumption | omega) rfl ?_ | refine pk_n (by first | with_reducible assumption | omega) rfl ?_ | refine pk_T rfl ?_ | refine pk_F rfl ?_ | refine cndP_T ?_ | refine cndP_F ?_ | refine cndP_yes (by first | with_reducible assumption | omega) ?_ | refine cndP_no (by first | with_reducible assumption | omega) ?_ | refine cndP_on (by with_reducible assumption) ?_ | refine cndP_off (by with_reducible assumption) ?_ | refine prP_lss ?_ | refine prP_leq ?_ | refine prP_gtr ?_ | refine prP_geq ?_ | refine prP_eqd ?_ | refine prP_ned ?_ | refine prP_notnd ?_ | refine prP_notd ?_ | refine prP_lnS ?_ | refine prP_inc (by omega) ?_ | refine prP_add ⟨by omega, by omega⟩ ?_ | refine prP_sub ⟨by omega, by omega⟩ ?_ | refine prP_addw ?_ | refine prP_subw ?_ | refine prP_rem (by omega) (by omega) ?_ | refine prP_quo (by omega) ⟨by omega, by omega⟩ (by omega) ?_ | refine prP_eqSd ?_ | refine prP_neSd ?_ | refine prP_catS (by first | omega | (simp only [ByteArray.size_append]; omega)) ?_ | refine prP_eqB ?_ | refine prP_neB ?_ | refine ixW_iv (by omega) ?_ | refine ixW_c (by omega) (by omega) ?_ | refine ldI (by omega) ?_ | refine ldS (by omega) ?_ | refine ldg_ob (by omega) ?_ | refine ldg_wk (by omega) ?_ | refine ldg_po (by omega) ?_ | refine ldg_an (by omega) ?_ | refine ldg_nd (by omega) ?_ | refine ldc_ob (by omega) (by decide) rfl ?_ | refine ldc_ob0 (by omega) rfl ?_ | refine ldc_wk (by omega) (by decide) rfl ?_ | refine ldc_wk0 (by omega) rfl ?_ | refine ldc_po (by omega) (by decide) rfl ?_ | refine ldc_po0 (by omega) rfl ?_ | refine ldc_an (by omega) (by decide) rfl ?_ | refine ldc_an0 (by omega) rfl ?_ | refine ldc_nd (by omega) (by decide) rfl ?_ | refine ldc_nd0 (by omega) rfl ?_ | refine ldf_ob (by omega) (by omega) ?_ | refine ldl_ob (by omega) ?_ | refine ldf_nd (by omega) (by omega) ?_ | refine ldl_nd (by omega) ?_ | refine ldf_an (by omega) (by omega) ?_ | refine ldl_an (by omega) ?_ | refine ldg_tR (by omega) rfl rfl ?_ | refine ldc_tI (by omega) ?_ | refine ldc_tS (by omega) ?_ | refine ldc_tR (by omega) (by decide) rfl ?_ | refine ldc_tR0 (by omega) rfl ?_ | refine apW_p (by first | exact flat_tI _ | exact flat_tS _ | exact flat_tW _ | exact flat_tP _ | rfl) (by omega) ?_ | refine apW_n (by omega) ?_ | refine cndP_d (fun _ => ?_) (fun _ => ?_) | refine pk_sd rfl rfl (fun _ => ?_) (fun _ => ?_) | refine pk_sb rfl rfl (fun _ => ?_) (fun _ => ?_) | refine gP_dt (fun _ => ?_) (fun _ => ?_) | refine gP_df (fun _ => ?_) (fun _ => ?_) | refine cndP_i (fun _ => ?_) (fun _ => ?_) | refine gP_ct (fun _ => ?_) (fun _ => ?_) | refine gP_cf (fun _ => ?_) (fun _ => ?_) | refine prP_not ?_ | simp only [cnt_tO, cnt_tW, cnt_tP, cnt_tA, cnt_tN, cnt_tI, cnt_tS, cnt1_1, cnt1_0, cnt2_1, cnt3_1, cnt5_1, cnt6_1, cnt8_1, nx_0, nx_1, nx_2, nx_3, nx_4, nx_5, nx_6, nxc_0, nxc_1, nxc_2, nxc_3, nxc_4, nxc_5])
  refine loopP_u fun R hR => ?_
  refine prP_lss (cndP_yes (by omega) (prP_rem (by omega) (by omega) (prP_cv8' (m := n % 256) (by omega) (b2T_1 (prP_catS (by rw [z1, z0]; omega) (prP_quo (by omega) ⟨by omega, by omega⟩ (by omega) (prP_add ⟨by omega, by omega⟩ ?_)))))))
  refine hR _ _ (prP_lss (cndP_yes (by omega) (prP_rem (by omega) (by omega) (prP_cv8' (m := n / 256 % 256) (by omega) (b2T_1 (prP_catS (by simp only [ByteArray.size_append, z1, z0]; omega) (prP_quo (by omega) ⟨by omega, by omega⟩ (by omega) (prP_add ⟨by omega, by omega⟩ ?_))))))))
  refine hR _ _ (prP_lss (cndP_yes (by omega) (prP_rem (by omega) (by omega) (prP_cv8' (m := n / 256 / 256 % 256) (by omega) (b2T_1 (prP_catS (by simp only [ByteArray.size_append, z1, z0]; omega) (prP_quo (by omega) ⟨by omega, by omega⟩ (by omega) (prP_add ⟨by omega, by omega⟩ ?_))))))))
  refine hR _ _ (prP_lss (cndP_yes (by omega) (prP_rem (by omega) (by omega) (prP_cv8' (m := n / 256 / 256 / 256 % 256) (by omega) (b2T_1 (prP_catS (by simp only [ByteArray.size_append, z1, z0]; omega) (prP_quo (by omega) ⟨by omega, by omega⟩ (by omega) (prP_add ⟨by omega, by omega⟩ ?_))))))))
  exact hR _ _ (prP_lss (cndP_no (by omega) (prP_gtr (cndP_no (by omega) h))))
/-! ### Frames and logs -/
def frm (n : Int) (p : ByteArray) : ByteArray := if (0 ≤ n ∧ n ≤ 400) ∧ p.size ≤ 200 then ((V n ++ V p.size) ++ p) ++ FX (crc ((V n ++ V p.size) ++ p)) else ⟨#[]⟩
theorem frm_size (n : Int) (p : ByteArray) : (frm n p).size ≤ 218 := by
  unfold frm; split
  · rename_i h
    have h1 := V_size n; have h2 := V_size p.size; have h3 := FX_size (crc ((V n ++ V p.size) ++ p))
    simp only [ByteArray.size_append]; omega
  · exact Nat.zero_le _
theorem impl_ShowFrame_c {n : Int} {p : ByteArray} {K : J2} (hp : (p.size : Int) < 2 ^ 62) (h : K [.string (frm n p)] []) : cl2 ⟨Try.prog, w0⟩ 162 impl_ShowFrame.sg [I n, .string p] [] K := by
  refine impl_ShowFrame.cl2 ?_
  unfold impl_ShowFrame.txt
  have h1 := V_size n; have h2 := V_size p.size
  have h3 := FX_size (crc ((V n ++ V p.size) ++ p))
  repeat' (first | refine impl_in_d ?_ | refine impl_Var_c ⟨by omega, by omega⟩ ?_ | refine impl_Crc_c (by simp only [ByteArray.size_append]; omega) ?_ | refine impl_Fixed_c (crc_lt _) ?_ | refine gE_x ?_ | refine gE_u ?_ | refine gP_u ?_ | refine gP_TT ?_ | refine gP_FF ?_ | refine gP_TF ?_ | refine gP_FT ?_ | refine gP_yt (by first | with_reducible assumption | omega) ?_ | refine gP_nt (by first | with_reducible assumption | omega) ?_ | refine gP_yf (by first | with_reducible assumption | omega) ?_ | refine gP_nf (by first | with_reducible assumption | omega) ?_ | refine gP_on (by with_reducible assumption) ?_ | refine gP_offt (by with_reducible assumption) ?_ | refine gP_offf (by with_reducible assumption) ?_ | refine pk_t (by with_reducible assumption) rfl ?_ | refine pk_f (by with_reducible assumption) rfl ?_ | refine pk_y (by first | with_reducible assumption | omega) rfl ?_ | refine pk_n (by first | with_reducible assumption | omega) rfl ?_ | refine pk_T rfl ?_ | refine pk_F rfl ?_ | refine cndP_T ?_ | refine cndP_F ?_ | refine cndP_yes (by first | with_reducible assumption | omega) ?_ | refine cndP_no (by first | with_reducible assumption | omega) ?_ | refine cndP_on (by with_reducible assumption) ?_ | refine cndP_off (by with_reducible assumption) ?_ | refine prP_lss ?_ | refine prP_leq ?_ | refine prP_gtr ?_ | refine prP_geq ?_ | refine prP_eqd ?_ | refine prP_ned ?_ | refine prP_notnd ?_ | refine prP_notd ?_ | refine prP_lnS ?_ | refine prP_inc (by omega) ?_ | refine prP_add ⟨by omega, by omega⟩ ?_ | refine prP_sub ⟨by omega, by omega⟩ ?_ | refine prP_addw ?_ | refine prP_subw ?_ | refine prP_rem (by omega) (by omega) ?_ | refine prP_quo (by omega) ⟨by omega, by omega⟩ (by omega) ?_ | refine prP_eqSd ?_ | refine prP_neSd ?_ | refine prP_catS (by first | omega | (simp only [ByteArray.size_append]; omega)) ?_ | refine prP_eqB ?_ | refine prP_neB ?_ | refine ixW_iv (by omega) ?_ | refine ixW_c (by omega) (by omega) ?_ | refine ldI (by omega) ?_ | refine ldS (by omega) ?_ | refine ldg_ob (by omega) ?_ | refine ldg_wk (by omega) ?_ | refine ldg_po (by omega) ?_ | refine ldg_an (by omega) ?_ | refine ldg_nd (by omega) ?_ | refine ldc_ob (by omega) (by decide) rfl ?_ | refine ldc_ob0 (by omega) rfl ?_ | refine ldc_wk (by omega) (by decide) rfl ?_ | refine ldc_wk0 (by omega) rfl ?_ | refine ldc_po (by omega) (by decide) rfl ?_ | refine ldc_po0 (by omega) rfl ?_ | refine ldc_an (by omega) (by decide) rfl ?_ | refine ldc_an0 (by omega) rfl ?_ | refine ldc_nd (by omega) (by decide) rfl ?_ | refine ldc_nd0 (by omega) rfl ?_ | refine ldf_ob (by omega) (by omega) ?_ | refine ldl_ob (by omega) ?_ | refine ldf_nd (by omega) (by omega) ?_ | refine ldl_nd (by omega) ?_ | refine ldf_an (by omega) (by omega) ?_ | refine ldl_an (by omega) ?_ | refine ldg_tR (by omega) rfl rfl ?_ | refine ldc_tI (by omega) ?_ | refine ldc_tS (by omega) ?_ | refine ldc_tR (by omega) (by decide) rfl ?_ | refine ldc_tR0 (by omega) rfl ?_ | refine apW_p (by first | exact flat_tI _ | exact flat_tS _ | exact flat_tW _ | exact flat_tP _ | rfl) (by omega) ?_ | refine apW_n (by omega) ?_ | refine cndP_d (fun _ => ?_) (fun _ => ?_) | refine pk_sd rfl rfl (fun _ => ?_) (fun _ => ?_) | refine pk_sb rfl rfl (fun _ => ?_) (fun _ => ?_) | refine gP_dt (fun _ => ?_) (fun _ => ?_) | refine gP_df (fun _ => ?_) (fun _ => ?_) | refine cndP_i (fun _ => ?_) (fun _ => ?_) | refine gP_ct (fun _ => ?_) (fun _ => ?_) | refine gP_cf (fun _ => ?_) (fun _ => ?_) | refine prP_not ?_ | simp only [cnt_tO, cnt_tW, cnt_tP, cnt_tA, cnt_tN, cnt_tI, cnt_tS, cnt1_1, cnt1_0, cnt2_1, cnt3_1, cnt5_1, cnt6_1, cnt8_1, nx_0, nx_1, nx_2, nx_3, nx_4, nx_5, nx_6, nxc_0, nxc_1, nxc_2, nxc_3, nxc_4, nxc_5])
  · rw [frm, if_neg (by omega)] at h; exact h
  · rw [frm, if_pos (by omega)] at h; exact h
  · rw [frm, if_neg (by omega)] at h; exact h
theorem spec_ShowFrame_c {n : Int} {p : ByteArray} {K : J2} (hp : (p.size : Int) < 2 ^ 62) (h : K [.string (frm n p)] []) : cl2 ⟨Try.prog, w0⟩ 161 spec_ShowFrame.sg [I n, .string p] [] K := by
  refine spec_ShowFrame.cl2 ?_
  unfold spec_ShowFrame.txt
  have h1 := V_size n; have h2 := V_size p.size
  have h3 := FX_size (crc ((V n ++ V p.size) ++ p))
  repeat' (first | refine spec_l1In_d ?_ | refine spec_Var_c ⟨by omega, by omega⟩ ?_ | refine spec_Crc_c (by simp only [ByteArray.size_append]; omega) ?_ | refine spec_Fixed_c (crc_lt _) ?_ | refine gE_x ?_ | refine gE_u ?_ | refine gP_u ?_ | refine gP_TT ?_ | refine gP_FF ?_ | refine gP_TF ?_ | refine gP_FT ?_ | refine gP_yt (by first | with_reducible assumption | omega) ?_ | refine gP_nt (by first | with_reducible assumption | omega) ?_ | refine gP_yf (by first | with_reducible assumption | omega) ?_ | refine gP_nf (by first | with_reducible assumption | omega) ?_ | refine gP_on (by with_reducible assumption) ?_ | refine gP_offt (by with_reducible assumption) ?_ | refine gP_offf (by with_reducible assumption) ?_ | refine pk_t (by with_reducible assumption) rfl ?_ | refine pk_f (by with_reducible assumption) rfl ?_ | refine pk_y (by first | with_reducible assumption | omega) rfl ?_ | refine pk_n (by first | with_reducible assumption | omega) rfl ?_ | refine pk_T rfl ?_ | refine pk_F rfl ?_ | refine cndP_T ?_ | refine cndP_F ?_ | refine cndP_yes (by first | with_reducible assumption | omega) ?_ | refine cndP_no (by first | with_reducible assumption | omega) ?_ | refine cndP_on (by with_reducible assumption) ?_ | refine cndP_off (by with_reducible assumption) ?_ | refine prP_lss ?_ | refine prP_leq ?_ | refine prP_gtr ?_ | refine prP_geq ?_ | refine prP_eqd ?_ | refine prP_ned ?_ | refine prP_notnd ?_ | refine prP_notd ?_ | refine prP_lnS ?_ | refine prP_inc (by omega) ?_ | refine prP_add ⟨by omega, by omega⟩ ?_ | refine prP_sub ⟨by omega, by omega⟩ ?_ | refine prP_addw ?_ | refine prP_subw ?_ | refine prP_rem (by omega) (by omega) ?_ | refine prP_quo (by omega) ⟨by omega, by omega⟩ (by omega) ?_ | refine prP_eqSd ?_ | refine prP_neSd ?_ | refine prP_catS (by first | omega | (simp only [ByteArray.size_append]; omega)) ?_ | refine prP_eqB ?_ | refine prP_neB ?_ | refine ixW_iv (by omega) ?_ | refine ixW_c (by omega) (by omega) ?_ | refine ldI (by omega) ?_ | refine ldS (by omega) ?_ | refine ldg_ob (by omega) ?_ | refine ldg_wk (by omega) ?_ | refine ldg_po (by omega) ?_ | refine ldg_an (by omega) ?_ | refine ldg_nd (by omega) ?_ | refine ldc_ob (by omega) (by decide) rfl ?_ | refine ldc_ob0 (by omega) rfl ?_ | refine ldc_wk (by omega) (by decide) rfl ?_ | refine ldc_wk0 (by omega) rfl ?_ | refine ldc_po (by omega) (by decide) rfl ?_ | refine ldc_po0 (by omega) rfl ?_ | refine ldc_an (by omega) (by decide) rfl ?_ | refine ldc_an0 (by omega) rfl ?_ | refine ldc_nd (by omega) (by decide) rfl ?_ | refine ldc_nd0 (by omega) rfl ?_ | refine ldf_ob (by omega) (by omega) ?_ | refine ldl_ob (by omega) ?_ | refine ldf_nd (by omega) (by omega) ?_ | refine ldl_nd (by omega) ?_ | refine ldf_an (by omega) (by omega) ?_ | refine ldl_an (by omega) ?_ | refine ldg_tR (by omega) rfl rfl ?_ | refine ldc_tI (by omega) ?_ | refine ldc_tS (by omega) ?_ | refine ldc_tR (by omega) (by decide) rfl ?_ | refine ldc_tR0 (by omega) rfl ?_ | refine apW_p (by first | exact flat_tI _ | exact flat_tS _ | exact flat_tW _ | exact flat_tP _ | rfl) (by omega) ?_ | refine apW_n (by omega) ?_ | refine cndP_d (fun _ => ?_) (fun _ => ?_) | refine pk_sd rfl rfl (fun _ => ?_) (fun _ => ?_) | refine pk_sb rfl rfl (fun _ => ?_) (fun _ => ?_) | refine gP_dt (fun _ => ?_) (fun _ => ?_) | refine gP_df (fun _ => ?_) (fun _ => ?_) | refine cndP_i (fun _ => ?_) (fun _ => ?_) | refine gP_ct (fun _ => ?_) (fun _ => ?_) | refine gP_cf (fun _ => ?_) (fun _ => ?_) | refine prP_not ?_ | simp only [cnt_tO, cnt_tW, cnt_tP, cnt_tA, cnt_tN, cnt_tI, cnt_tS, cnt1_1, cnt1_0, cnt2_1, cnt3_1, cnt5_1, cnt6_1, cnt8_1, nx_0, nx_1, nx_2, nx_3, nx_4, nx_5, nx_6, nxc_0, nxc_1, nxc_2, nxc_3, nxc_4, nxc_5])
  · rw [frm, if_neg (by omega)] at h; exact h
  · rw [frm, if_pos (by omega)] at h; exact h
  · rw [frm, if_neg (by omega)] at h; exact h
def magic : ByteArray := ⟨#[72, 76, 79, 71, 1]⟩
def frs (l : List ByteArray) : Nat → ByteArray
  | 0 => magic
  | i + 1 => frs l i ++ frm i (gS l i)
theorem frs_size (l : List ByteArray) : ∀ i, (frs l i).size ≤ 5 + 218 * i
  | 0 => by show magic.size ≤ 5; decide
  | i + 1 => by have h1 := frs_size l i; have h2 := frm_size i (gS l i); rw [frs, ByteArray.size_append]; omega
def payB (p : ByteArray) : Prop := 1 ≤ (p.size : Int) ∧ (p.size : Int) ≤ 200
instance (p : ByteArray) : Decidable (payB p) := inferInstanceAs (Decidable (_ ∧ _))
def showL (l : List ByteArray) : ByteArray := if l.length ≤ 400 ∧ ∀ p ∈ l, payB p then frs l l.length ++ frm l.length ⟨#[]⟩ else ⟨#[]⟩
theorem gS_mem {l : List ByteArray} {i : Nat} (h : i < l.length) : gS l i ∈ l := by rw [← gS_eq h]; exact List.getElem_mem h
theorem gS_all {l : List ByteArray} {P : ByteArray → Prop} (h : ∀ i, i < l.length → P (gS l i)) : ∀ p ∈ l, P p := by
  intro p hp
  obtain ⟨i, hi, rfl⟩ := List.getElem_of_mem hp
  rw [gS_eq hi]; exact h i hi
theorem impl_ShowLog_c {l : List ByteArray} {K : J2} (hl : (l.length : Int) < 2 ^ 40) (hs : ∀ i, ((gS l i).size : Int) < 2 ^ 62) (h : K [.string (showL l)] []) : cl2 ⟨Try.prog, w0⟩ 96 impl_ShowLog.sg [] [tS l] K := by
  refine impl_ShowLog.cl2 ?_
  unfold impl_ShowLog.txt
  simp only [cnt_tO, cnt_tW, cnt_tP, cnt_tA, cnt_tN, cnt_tI, cnt_tS, cnt1_1, cnt1_0, cnt2_1, cnt3_1, cnt5_1, cnt6_1, cnt8_1, nx_0, nx_1, nx_2, nx_3, nx_4, nx_5, nx_6, nxc_0, nxc_1, nxc_2, nxc_3, nxc_4, nxc_5]
  refine prP_gtr (cndP_d (fun hgt => ?_) fun hle => ?_)
  · rw [showL, if_neg (by omega)] at h; exact h
  · refine loopP_from (fun i => [.string (frs l i), iv l.length, iv i]) (fun _ => []) l.length (fun i => ∀ j, j < i → payB (gS l j)) rfl rfl (fun j hj => by omega) (fun R i hi hP hR => ?_)
    have z1 := frs_size l i
    have z2 := frm_size i (gS l i)
    refine prP_lss (cndP_d (fun hlt => ?_) fun hge => ?_)
    · have hlt : i < l.length := by omega
      repeat' (first | refine impl_in_d ?_ | refine impl_ShowFrame_c (hs i) ?_ | refine prP_catS (by omega) ?_ | refine gE_x ?_ | refine gE_u ?_ | refine gP_u ?_ | refine gP_TT ?_ | refine gP_FF ?_ | refine gP_TF ?_ | refine gP_FT ?_ | refine gP_yt (by first | with_reducible assumption | omega) ?_ | refine gP_nt (by first | with_reducible assumption | omega) ?_ | refine gP_yf (by first | with_reducible assumption | omega) ?_ | refine gP_nf (by first | with_reducible assumption | omega) ?_ | refine gP_on (by with_reducible assumption) ?_ | refine gP_offt (by with_reducible assumption) ?_ | refine gP_offf (by with_reducible assumption) ?_ | refine pk_t (by with_reducible assumption) rfl ?_ | refine pk_f (by with_reducible assumption) rfl ?_ | refine pk_y (by first | with_reducible assumption | omega) rfl ?_ | refine pk_n (by first | with_reducible assumption | omega) rfl ?_ | refine pk_T rfl ?_ | refine pk_F rfl ?_ | refine cndP_T ?_ | refine cndP_F ?_ | refine cndP_yes (by first | with_reducible assumption | omega) ?_ | refine cndP_no (by first | with_reducible assumption | omega) ?_ | refine cndP_on (by with_reducible assumption) ?_ | refine cndP_off (by with_reducible assumption) ?_ | refine prP_lss ?_ | refine prP_leq ?_ | refine prP_gtr ?_ | refine prP_geq ?_ | refine prP_eqd ?_ | refine prP_ned ?_ | refine prP_notnd ?_ | refine prP_notd ?_ | refine prP_lnS ?_ | refine prP_inc (by omega) ?_ | refine prP_add ⟨by omega, by omega⟩ ?_ | refine prP_sub ⟨by omega, by omega⟩ ?_ | refine prP_addw ?_ | refine prP_subw ?_ | refine prP_rem (by omega) (by omega) ?_ | refine prP_quo (by omega) ⟨by omega, by omega⟩ (by omega) ?_ | refine prP_eqSd ?_ | refine prP_neSd ?_ | refine prP_catS (by first | omega | (simp only [ByteArray.size_append]; omega)) ?_ | refine prP_eqB ?_ | refine prP_neB ?_ | refine ixW_iv (by omega) ?_ | refine ixW_c (by omega) (by omega) ?_ | refine ldI (by omega) ?_ | refine ldS (by omega) ?_ | refine ldg_ob (by omega) ?_ | refine ldg_wk (by omega) ?_ | refine ldg_po (by omega) ?_ | refine ldg_an (by omega) ?_ | refine ldg_nd (by omega) ?_ | refine ldc_ob (by omega) (by decide) rfl ?_ | refine ldc_ob0 (by omega) rfl ?_ | refine ldc_wk (by omega) (by decide) rfl ?_ | refine ldc_wk0 (by omega) rfl ?_ | refine ldc_po (by omega) (by decide) rfl ?_ | refine ldc_po0 (by omega) rfl ?_ | refine ldc_an (by omega) (by decide) rfl ?_ | refine ldc_an0 (by omega) rfl ?_ | refine ldc_nd (by omega) (by decide) rfl ?_ | refine ldc_nd0 (by omega) rfl ?_ | refine ldf_ob (by omega) (by omega) ?_ | refine ldl_ob (by omega) ?_ | refine ldf_nd (by omega) (by omega) ?_ | refine ldl_nd (by omega) ?_ | refine ldf_an (by omega) (by omega) ?_ | refine ldl_an (by omega) ?_ | refine ldg_tR (by omega) rfl rfl ?_ | refine ldc_tI (by omega) ?_ | refine ldc_tS (by omega) ?_ | refine ldc_tR (by omega) (by decide) rfl ?_ | refine ldc_tR0 (by omega) rfl ?_ | refine apW_p (by first | exact flat_tI _ | exact flat_tS _ | exact flat_tW _ | exact flat_tP _ | rfl) (by omega) ?_ | refine apW_n (by omega) ?_ | refine cndP_d (fun _ => ?_) (fun _ => ?_) | refine pk_sd rfl rfl (fun _ => ?_) (fun _ => ?_) | refine pk_sb rfl rfl (fun _ => ?_) (fun _ => ?_) | refine gP_dt (fun _ => ?_) (fun _ => ?_) | refine gP_df (fun _ => ?_) (fun _ => ?_) | refine cndP_i (fun _ => ?_) (fun _ => ?_) | refine gP_ct (fun _ => ?_) (fun _ => ?_) | refine gP_cf (fun _ => ?_) (fun _ => ?_) | refine prP_not ?_ | simp only [cnt_tO, cnt_tW, cnt_tP, cnt_tA, cnt_tN, cnt_tI, cnt_tS, cnt1_1, cnt1_0, cnt2_1, cnt3_1, cnt5_1, cnt6_1, cnt8_1, nx_0, nx_1, nx_2, nx_3, nx_4, nx_5, nx_6, nxc_0, nxc_1, nxc_2, nxc_3, nxc_4, nxc_5])
      · rename_i hb
        rw [showL, if_neg (fun hh => hb (hh.2 _ (gS_mem hlt)))] at h; exact h
      · rename_i hb
        refine hR hlt fun j hj => ?_
        rcases Nat.lt_succ_iff_lt_or_eq.1 hj with h1 | rfl
        · exact hP j h1
        · exact Decidable.not_not.1 hb
    · have : i = l.length := by omega
      subst this
      have z3 := frm_size l.length ⟨#[]⟩
      rw [showL, if_pos ⟨by omega, gS_all hP⟩] at h
      refine impl_ShowFrame_c (by decide) (prP_catS (by omega) h)
theorem spec_ShowLog_c {l : List ByteArray} {K : J2} (hl : (l.length : Int) < 2 ^ 40) (hs : ∀ i, ((gS l i).size : Int) < 2 ^ 62) (h : K [.string (showL l)] []) : cl2 ⟨Try.prog, w0⟩ 94 spec_ShowLog.sg [] [tS l] K := by
  refine spec_ShowLog.cl2 ?_
  unfold spec_ShowLog.txt
  simp only [cnt_tO, cnt_tW, cnt_tP, cnt_tA, cnt_tN, cnt_tI, cnt_tS, cnt1_1, cnt1_0, cnt2_1, cnt3_1, cnt5_1, cnt6_1, cnt8_1, nx_0, nx_1, nx_2, nx_3, nx_4, nx_5, nx_6, nxc_0, nxc_1, nxc_2, nxc_3, nxc_4, nxc_5]
  refine prP_gtr (cndP_d (fun hgt => ?_) fun hle => ?_)
  · rw [showL, if_neg (by omega)] at h; exact h
  · refine spec_l4Magic.cl2 ?_
    refine loopP_from (fun i => [.string (frs l i), iv i]) (fun _ => []) l.length (fun i => ∀ j, j < i → payB (gS l j)) rfl rfl (fun j hj => by omega) (fun R i hi hP hR => ?_)
    have z1 := frs_size l i
    have z2 := frm_size i (gS l i)
    refine prP_lss (cndP_d (fun hlt => ?_) fun hge => ?_)
    · have hlt : i < l.length := by omega
      have no : ¬ payB (gS l i) → K [.string ⟨#[]⟩] [] := fun hb => by
        rw [showL, if_neg (fun hh => hb (hh.2 _ (gS_mem hlt)))] at h; exact h
      repeat' (first | refine spec_ShowFrame_c (hs i) ?_ | refine prP_catS (by omega) ?_ | refine gE_x ?_ | refine gE_u ?_ | refine gP_u ?_ | refine gP_TT ?_ | refine gP_FF ?_ | refine gP_TF ?_ | refine gP_FT ?_ | refine gP_yt (by first | with_reducible assumption | omega) ?_ | refine gP_nt (by first | with_reducible assumption | omega) ?_ | refine gP_yf (by first | with_reducible assumption | omega) ?_ | refine gP_nf (by first | with_reducible assumption | omega) ?_ | refine gP_on (by with_reducible assumption) ?_ | refine gP_offt (by with_reducible assumption) ?_ | refine gP_offf (by with_reducible assumption) ?_ | refine pk_t (by with_reducible assumption) rfl ?_ | refine pk_f (by with_reducible assumption) rfl ?_ | refine pk_y (by first | with_reducible assumption | omega) rfl ?_ | refine pk_n (by first | with_reducible assumption | omega) rfl ?_ | refine pk_T rfl ?_ | refine pk_F rfl ?_ | refine cndP_T ?_ | refine cndP_F ?_ | refine cndP_yes (by first | with_reducible assumption | omega) ?_ | refine cndP_no (by first | with_reducible assumption | omega) ?_ | refine cndP_on (by with_reducible assumption) ?_ | refine cndP_off (by with_reducible assumption) ?_ | refine prP_lss ?_ | refine prP_leq ?_ | refine prP_gtr ?_ | refine prP_geq ?_ | refine prP_eqd ?_ | refine prP_ned ?_ | refine prP_notnd ?_ | refine prP_notd ?_ | refine prP_lnS ?_ | refine prP_inc (by omega) ?_ | refine prP_add ⟨by omega, by omega⟩ ?_ | refine prP_sub ⟨by omega, by omega⟩ ?_ | refine prP_addw ?_ | refine prP_subw ?_ | refine prP_rem (by omega) (by omega) ?_ | refine prP_quo (by omega) ⟨by omega, by omega⟩ (by omega) ?_ | refine prP_eqSd ?_ | refine prP_neSd ?_ | refine prP_catS (by first | omega | (simp only [ByteArray.size_append]; omega)) ?_ | refine prP_eqB ?_ | refine prP_neB ?_ | refine ixW_iv (by omega) ?_ | refine ixW_c (by omega) (by omega) ?_ | refine ldI (by omega) ?_ | refine ldS (by omega) ?_ | refine ldg_ob (by omega) ?_ | refine ldg_wk (by omega) ?_ | refine ldg_po (by omega) ?_ | refine ldg_an (by omega) ?_ | refine ldg_nd (by omega) ?_ | refine ldc_ob (by omega) (by decide) rfl ?_ | refine ldc_ob0 (by omega) rfl ?_ | refine ldc_wk (by omega) (by decide) rfl ?_ | refine ldc_wk0 (by omega) rfl ?_ | refine ldc_po (by omega) (by decide) rfl ?_ | refine ldc_po0 (by omega) rfl ?_ | refine ldc_an (by omega) (by decide) rfl ?_ | refine ldc_an0 (by omega) rfl ?_ | refine ldc_nd (by omega) (by decide) rfl ?_ | refine ldc_nd0 (by omega) rfl ?_ | refine ldf_ob (by omega) (by omega) ?_ | refine ldl_ob (by omega) ?_ | refine ldf_nd (by omega) (by omega) ?_ | refine ldl_nd (by omega) ?_ | refine ldf_an (by omega) (by omega) ?_ | refine ldl_an (by omega) ?_ | refine ldg_tR (by omega) rfl rfl ?_ | refine ldc_tI (by omega) ?_ | refine ldc_tS (by omega) ?_ | refine ldc_tR (by omega) (by decide) rfl ?_ | refine ldc_tR0 (by omega) rfl ?_ | refine apW_p (by first | exact flat_tI _ | exact flat_tS _ | exact flat_tW _ | exact flat_tP _ | rfl) (by omega) ?_ | refine apW_n (by omega) ?_ | refine cndP_d (fun _ => ?_) (fun _ => ?_) | refine pk_sd rfl rfl (fun _ => ?_) (fun _ => ?_) | refine pk_sb rfl rfl (fun _ => ?_) (fun _ => ?_) | refine gP_dt (fun _ => ?_) (fun _ => ?_) | refine gP_df (fun _ => ?_) (fun _ => ?_) | refine cndP_i (fun _ => ?_) (fun _ => ?_) | refine gP_ct (fun _ => ?_) (fun _ => ?_) | refine gP_cf (fun _ => ?_) (fun _ => ?_) | refine prP_not ?_ | simp only [cnt_tO, cnt_tW, cnt_tP, cnt_tA, cnt_tN, cnt_tI, cnt_tS, cnt1_1, cnt1_0, cnt2_1, cnt3_1, cnt5_1, cnt6_1, cnt8_1, nx_0, nx_1, nx_2, nx_3, nx_4, nx_5, nx_6, nxc_0, nxc_1, nxc_2, nxc_3, nxc_4, nxc_5])
      · exact no (by unfold payB; omega)
      · rename_i hb1 hb2
        refine hR hlt fun j hj => ?_
        rcases Nat.lt_succ_iff_lt_or_eq.1 hj with h1 | rfl
        · exact hP j h1
        · refine ⟨?_, by omega⟩
          have : (gS l j).size ≠ 0 := fun hz => hb1 (by
            have := ByteArray.ext (x := gS l j) (y := ⟨#[]⟩) (Array.eq_empty_of_size_eq_zero hz)
            exact this)
          omega
      · rename_i hb
        exact no (by rw [payB, hb]; decide)
    · have : i = l.length := by omega
      subst this
      have z3 := frm_size l.length ⟨#[]⟩
      rw [showL, if_pos ⟨by omega, gS_all hP⟩] at h
      refine spec_ShowFrame_c (by decide) (prP_catS (by omega) h)
end Go.Proofs.Ytnhicpkhkaihoaa.P
