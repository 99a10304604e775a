/- Events, as they are read. -/
import Derived.Test.YtnhicpkhkaihoaaCeWireF
import Derived.Test.YtnhicpkhkaihoaaCeLawTyAnswer
namespace Go.Proofs.Ytnhicpkhkaihoaa.P
open Go Go.Proofs.Ytnhicpkhkaihoaa Go.Proofs.Ytnhicpkhkaihoaa.Eng
set_option maxHeartbeats 4000000
set_option linter.unusedVariables false
set_option linter.unusedSimpArgs false
attribute [local irreducible] prP gP gE gF cndP ixW ldc ldg ldl stc stg scW mkW apW loopP cl2 joinP pre2
variable {w0 : World}
def rdI (r : ByteArray) : Option (Int × ByteArray) := if (ri r).2 = 0 then none else some ((ri r).1, dr r (ri r).2.toNat)
def rdN (r : ByteArray) : Option (Int × ByteArray) := if (rv r).2 = 0 then none else some ((rv r).1, dr r (rv r).2.toNat)
def rdT (r : ByteArray) : Option (ByteArray × ByteArray) := if (rt r).2 = 0 then none else some ((rt r).1, dr r (rt r).2.toNat)
def EL {β : Type} (f : List Int → Option β) : Nat → List Int → Int → ByteArray → Option β
  | 0, acc, _, _ => f acc
  | m + 1, acc, last, r => (rdI r).bind fun p => EL f m (acc ++ [w64 (last + p.1)]) (w64 (last + p.1)) p.2
abbrev Ev := Op5 × An
def E8 (o : Op5) (code val : Int) (r : ByteArray) : Option Ev := (rdN r).bind fun p => if p.1 > 8 then none else EL (fun fr => some (o, ⟨code, val, fr⟩)) p.1.toNat [] o.a p.2
def E7 (o : Op5) (code : Int) (r : ByteArray) : Option Ev := (rdI r).bind fun p => E8 o code (w64 (o.a + p.1)) p.2
def E6 (o : Op5) (r : ByteArray) : Option Ev := (rdN r).bind fun p => E7 o p.1 p.2
def E5 (l : List ByteArray) (kind a b c k : Int) (r : ByteArray) : Option Ev := if k = 0 then (rdT r).bind fun p => E6 ⟨kind, a, b, c, p.1⟩ p.2 else if k ≤ l.length then E6 ⟨kind, a, b, c, gS l (k - 1).toNat⟩ r else none
def E4 (l : List ByteArray) (kind a b c : Int) (r : ByteArray) : Option Ev := (rdN r).bind fun p => E5 l kind a b c p.1 p.2
def E3 (l : List ByteArray) (kind a b : Int) (r : ByteArray) : Option Ev := (rdI r).bind fun p => E4 l kind a b (w64 (a + p.1)) p.2
def E2 (l : List ByteArray) (kind a : Int) (r : ByteArray) : Option Ev := (rdI r).bind fun p => E3 l kind a p.1 p.2
def E1 (last : Int) (l : List ByteArray) (kind : Int) (r : ByteArray) : Option Ev := (rdI r).bind fun p => E2 l kind (w64 (last + p.1)) p.2
def E0 (last : Int) (l : List ByteArray) (s : ByteArray) : Option Ev := (rdI s).bind fun p => E1 last l p.1 p.2
def evOk (last : Int) (l : List ByteArray) (s : ByteArray) (e : Ev) : Prop := (show1 last l e.1 e.2).1 ≠ ⟨#[]⟩ ∧ (show1 last l e.1 e.2).1 = s
instance (last : Int) (l : List ByteArray) (s : ByteArray) (e : Ev) : Decidable (evOk last l s e) := inferInstanceAs (Decidable (_ ∧ _))
/-- What is read of an event: the operation, the answer, the pen behind it, and whether it is one. -/
structure RE where
  o : Op5
  a : An
  last : Int
  sites : List ByteArray
  ok : Bool
def readE (last : Int) (l : List ByteArray) (s : ByteArray) : RE := match E0 last l s with
  | none => ⟨⟨0, 0, 0, 0, ⟨#[]⟩⟩, ⟨0, 0, []⟩, last, l, false⟩
  | some e => if evOk last l s e then ⟨e.1, e.2, (show1 last l e.1 e.2).2.1, (show1 last l e.1 e.2).2.2, true⟩ else ⟨⟨0, 0, 0, 0, ⟨#[]⟩⟩, ⟨0, 0, []⟩, last, l, false⟩
/-! ### The program's reader -/
structure EInv (X : Option Ev) (b : Bool) (Y : Option Ev) : Prop where
  go : b = false → X = Y
  no : b = true → X = none
theorem took_c {r : ByteArray} {b : Bool} {k : Int} {K : J2} (hk : 0 ≤ k ∧ k ≤ r.size) (h : K [.string (dr r k.toNat), .bool (if k = 0 then true else b)] []) : cl2 ⟨Try.prog, w0⟩ 166 impl_eventReader_took.sg [.string r, .bool b, I k] [] K := by
  refine impl_eventReader_took.cl2 ?_
  unfold impl_eventReader_took.txt
  refine joinP_k (prP_eqd (cndP_d (fun h0 => ?_) fun h0 => ?_))
  · rw [if_pos h0] at h
    exact sc_fI hk.1 hk.2 h
  · rw [if_neg h0] at h
    exact sc_fI hk.1 hk.2 h
theorem signed_c {r : ByteArray} {b : Bool} {X : Option Ev} {g : Int → ByteArray → Option Ev} {K : J2} (hr : (r.size : Int) < 2 ^ 61) (hi : EInv X b ((rdI r).bind fun p => g p.1 p.2))
    (h : ∀ v r' b', EInv X b' (g v r') → -100000000000001 ≤ v ∧ v ≤ 100000000000001 → r'.size ≤ r.size → (b' = false → r'.size < r.size) → K [I v, .string r', .bool b'] []) : cl2 ⟨Try.prog, w0⟩ 100 impl_eventReader_signed.sg [.string r, .bool b] [] K := by
  have hb := ri_bd r
  refine impl_eventReader_signed.cl2 (impl_ReadInt_c (by omega) (took_c ⟨by omega, by omega⟩ ?_))
  refine h _ _ _ ⟨fun h0 => ?_, fun h0 => ?_⟩ ⟨by omega, by omega⟩ (by rw [dr_size]; omega) (fun h0 => ?_)
  · split at h0
    · cases h0
    · rename_i hne
      rw [hi.go h0, rdI, if_neg hne]; rfl
  · split at h0
    · rename_i he
      cases b with
      | true => exact hi.no rfl
      | false => rw [hi.go rfl, rdI, if_pos he]; rfl
    · exact hi.no h0
  · split at h0
    · cases h0
    · rw [dr_size]; omega
theorem num_c {r : ByteArray} {b : Bool} {X : Option Ev} {g : Int → ByteArray → Option Ev} {K : J2} (hr : (r.size : Int) < 2 ^ 61) (hi : EInv X b ((rdN r).bind fun p => g p.1 p.2))
    (h : ∀ v r' b', EInv X b' (g v r') → 0 ≤ v ∧ v < 2 ^ 49 → r'.size ≤ r.size → K [I v, .string r', .bool b'] []) : cl2 ⟨Try.prog, w0⟩ 101 impl_eventReader_num.sg [.string r, .bool b] [] K := by
  have hb := rv_bd r
  refine impl_eventReader_num.cl2 (impl_ReadVar_c (by omega) (took_c ⟨by omega, by omega⟩ ?_))
  refine h _ _ _ ⟨fun h0 => ?_, fun h0 => ?_⟩ ⟨by omega, by omega⟩ (by rw [dr_size]; omega)
  · split at h0
    · cases h0
    · rename_i hne
      rw [hi.go h0, rdN, if_neg hne]; rfl
  · split at h0
    · rename_i he
      cases b with
      | true => exact hi.no rfl
      | false => rw [hi.go rfl, rdN, if_pos he]; rfl
    · exact hi.no h0
theorem text_c {r : ByteArray} {b : Bool} {X : Option Ev} {g : ByteArray → ByteArray → Option Ev} {K : J2} (hr : (r.size : Int) < 2 ^ 61) (hi : EInv X b ((rdT r).bind fun p => g p.1 p.2))
    (h : ∀ v r' b', EInv X b' (g v r') → v.size ≤ 8 → r'.size ≤ r.size → K [.string v, .string r', .bool b'] []) : cl2 ⟨Try.prog, w0⟩ 102 impl_eventReader_text.sg [.string r, .bool b] [] K := by
  have hb := rt_bd r
  refine impl_eventReader_text.cl2 (impl_ReadText_c (by omega) (took_c ⟨by omega, by omega⟩ ?_))
  refine h _ _ _ ⟨fun h0 => ?_, fun h0 => ?_⟩ (by omega) (by rw [dr_size]; omega)
  · split at h0
    · cases h0
    · rename_i hne
      rw [hi.go h0, rdT, if_neg hne]; rfl
  · split at h0
    · rename_i he
      cases b with
      | true => exact hi.no rfl
      | false => rw [hi.go rfl, rdT, if_pos he]; rfl
    · exact hi.no h0
theorem EInv.start {X Y : Option Ev} (h : X = Y) : EInv X false Y := ⟨fun _ => h, fun h => by cases h⟩
theorem EInv.off {X : Option Ev} {b : Bool} (h : EInv X b none) : X = none := by
  cases b with
  | true => exact h.no rfl
  | false => exact h.go rfl
theorem show1_long {n : Int} {l : List ByteArray} {o : Op5} {a : An} (h : 8 < a.freed.length) : (show1 n l o a).1 = ⟨#[]⟩ := by
  unfold show1 showR
  rw [if_neg]
  intro hok
  have := (ok_parts hok).2.2.2.2.2.2.2.1
  omega
/-- The first k of the numbers are read. -/
structure LpI (X : Option Ev) (o : Op5) (code val n : Int) (q : Nat × Int × List Int × ByteArray × Bool) (s0 : ByteArray) : Prop where
  inv : n ≤ 8 → EInv X q.2.2.2.2 (EL (fun fr => some (o, ⟨code, val, fr⟩)) (n.toNat - q.1) q.2.2.1 q.2.1 q.2.2.2.1)
  big : n > 8 → X = none
  le : q.1 ≤ n
  len : q.2.2.1.length = q.1
  sz : q.2.2.2.2 = false → q.2.2.2.1.size + q.1 ≤ s0.size
  sz2 : q.2.2.2.1.size ≤ s0.size
  sz3 : q.1 ≤ s0.size + 1
attribute [irreducible] rdI rdN rdT
theorem impl_ReadEvent_c {n : Int} {l : List ByteArray} {s : ByteArray} {K : J2} (hl : l.length < 2 ^ 40) (hs : (s.size : Int) < 2 ^ 40)
    (h : K [I (readE n l s).o.kind, I (readE n l s).o.a, I (readE n l s).o.b, I (readE n l s).o.c, .string (readE n l s).o.site, I (readE n l s).a.code, I (readE n l s).a.val, I (readE n l s).last, .bool (readE n l s).ok] [tI (readE n l s).a.freed, tS (readE n l s).sites]) :
    cl2 ⟨Try.prog, w0⟩ 35 impl_ReadEvent.sg [I n, .string s] [tS l] K := by
  refine impl_ReadEvent.cl2 ?_
  unfold impl_ReadEvent.txt
  simp only [cnt_tO, cnt_tW, cnt_tP, cnt_tA, cnt_tN, cnt_tI, cnt_tS, cnt1_1, cnt1_0, cnt2_1, cnt3_1, cnt5_1, cnt6_1, cnt8_1, nx_0, nx_1, nx_2, nx_3, nx_4, nx_5, nx_6, nxc_0, nxc_1, nxc_2, nxc_3, nxc_4, nxc_5]
  obtain ⟨X, hX⟩ : ∃ X, E0 n l s = X := ⟨_, rfl⟩
  have fail : X = none → K [I 0, I 0, I 0, I 0, .string ⟨#[]⟩, I 0, I 0, I n, .bool false] [[], tS l] := fun hx => by
    have : readE n l s = ⟨⟨0, 0, 0, 0, ⟨#[]⟩⟩, ⟨0, 0, []⟩, n, l, false⟩ := by rw [readE, hX, hx]
    rw [this] at h; exact h
  refine signed_c (X := X) (g := E1 n l) (by omega) (.start (by rw [← hX, E0])) fun v1 r1 b1 i1 _ z1 _ => ?_
  refine signed_c (X := X) (g := fun v => E2 l v1 (w64 (n + v))) (by omega) (by rw [E1] at i1; exact i1) fun v2 r2 b2 i2 _ z2 _ => ?_
  refine prP_addw ?_
  generalize w64 (n + v2) = A at i2 ⊢
  refine signed_c (X := X) (g := fun v => E3 l v1 A v) (by omega) (by rw [E2] at i2; exact i2) fun v3 r3 b3 i3 _ z3 _ => ?_
  refine signed_c (X := X) (g := fun v => E4 l v1 A v3 (w64 (A + v))) (by omega) (by rw [E3] at i3; exact i3) fun v4 r4 b4 i4 _ z4 _ => ?_
  refine prP_addw ?_
  generalize w64 (A + v4) = Cc at i4 ⊢
  refine num_c (X := X) (g := fun v => E5 l v1 A v3 Cc v) (by omega) (by rw [E4] at i4; exact i4) fun v5 r5 b5 i5 _ z5 => ?_
  refine joinP_i (fun ys cs => cs = [] ∧ ∃ nm r6 b6, ys = [.string s, I n, I 0, I 0, I 0, I 0, .string ⟨#[]⟩, I 0, I 0, I 0, .string r6, .bool b6, I v1, I A, I v3, I Cc, .string nm, I 0, I 0] ∧ EInv X b6 (E6 ⟨v1, A, v3, Cc, nm⟩ r6) ∧ r6.size ≤ s.size) (fun ys cs hp => ?_) fun j hj => ?_
  · obtain ⟨rfl, nm, r6, b6, rfl, i6, z6⟩ := hp
    refine num_c (X := X) (g := fun v => E7 ⟨v1, A, v3, Cc, nm⟩ v) (by omega) (by rw [E6] at i6; exact i6) fun v7 r7 b7 i7 _ z7 => ?_
    refine signed_c (X := X) (g := fun v => E8 ⟨v1, A, v3, Cc, nm⟩ v7 (w64 (A + v))) (by omega) (by rw [E7] at i7; exact i7) fun v8 r8 b8 i8 _ z8 _ => ?_
    refine prP_addw ?_
    simp only [nx_0, nx_1]
    generalize w64 (A + v8) = Vv at i8 ⊢
    refine num_c (X := X) (g := fun v r => if v > 8 then none else EL (fun fr => some (⟨v1, A, v3, Cc, nm⟩, ⟨v7, Vv, fr⟩)) v.toNat [] A r) (by omega) (by rw [E8] at i8; exact i8) fun v9 r9 b9 i9 hv9 z9 => ?_
    refine loopP_wf (α := Nat × Int × List Int × ByteArray × Bool) (fun q => [.string s, I v9, I q.2.1, iv q.1, I n, I 0, I 0, I 0, I 0, .string ⟨#[]⟩, I 0, I 0, I 0, .string q.2.2.2.1, .bool q.2.2.2.2, I v1, I A, I v3, I Cc, .string nm, I v7, I Vv]) (fun q => [tI q.2.2.1]) (fun q => s.size + 2 - q.1)
      (fun q => LpI X ⟨v1, A, v3, Cc, nm⟩ v7 Vv v9 q s) (0, A, [], r9, b9) rfl rfl ⟨fun h8 => by rw [if_neg (by omega)] at i9; exact i9, fun h8 => by rw [if_pos h8] at i9; exact i9.off, by simp only; omega, rfl, fun _ => by simp only; omega, by simp only; omega, by simp only; omega⟩ (fun R q hq hR => ?_)
    obtain ⟨i, la, acc, r, b⟩ := q
    obtain ⟨inv, big, le, len, sz, sz2, sz3⟩ := hq
    simp only at inv big le len sz sz2 sz3
    simp only [cnt_tO, cnt_tW, cnt_tP, cnt_tA, cnt_tN, cnt_tI, cnt_tS, cnt1_1, cnt1_0, cnt2_1, cnt3_1, cnt5_1, cnt6_1, cnt8_1, nx_0, nx_1, nx_2, nx_3, nx_4, nx_5, nx_6, nxc_0, nxc_1, nxc_2, nxc_3, nxc_4, nxc_5]
    have fin : (b = true ∨ (b = false ∧ (i : Int) = v9)) → cl2 ⟨Try.prog, w0⟩ 51 impl_ShowEvent.sg [I n, I v1, I A, I v3, I Cc, .string nm, I v7, I Vv] [tS l, tI acc] fun v58 d59 =>
        gE (.bool b) (gP (.bool b) false (prP (bnS .eql (nx v58 0) (.string { data := #[] }))) fun t110_60 => prP (pk (.bool b) (.bool true) t110_60) fun t111_61 => gE t111_61 (gE t111_61 (gP t111_61 false (prP (bnS .neq (nx v58 0) (.string s))) fun t115_62 => prP (pk t111_61 (.bool true) t115_62) fun t116_63 =>
          cndP t116_63 (cl2 ⟨Try.prog, w0⟩ 103 impl_copyPen.sg [I n] [tS l] fun v64 d65 => K [(.int .i64 0), (.int .i64 0), (.int .i64 0), (.int .i64 0), (.string { data := #[] }), (.int .i64 0), (.int .i64 0), (nx v64 0), (.bool false)] [[], (nxc d65 0)])
            (K [I v1, I A, I v3, I Cc, .string nm, I v7, I Vv, (nx v58 1), (.bool true)] [tI acc, (nxc d59 0)])))) := fun hf => by
      refine impl_ShowEvent_c hl (by omega) ?_
      have hsh : showR n l v1 A v3 Cc nm v7 Vv acc = show1 n l ⟨v1, A, v3, Cc, nm⟩ ⟨v7, Vv, acc⟩ := by rw [show1]
      rw [hsh]
      have out : (b = true ∨ (show1 n l ⟨v1, A, v3, Cc, nm⟩ ⟨v7, Vv, acc⟩).1 = ⟨#[]⟩ ∨ (show1 n l ⟨v1, A, v3, Cc, nm⟩ ⟨v7, Vv, acc⟩).1 ≠ s) → cl2 ⟨Try.prog, w0⟩ 103 impl_copyPen.sg [I n] [tS l] fun v64 d65 => K [(.int .i64 0), (.int .i64 0), (.int .i64 0), (.int .i64 0), (.string { data := #[] }), (.int .i64 0), (.int .i64 0), (nx v64 0), (.bool false)] [[], (nxc d65 0)] := fun hb => by
        refine impl_copyPen_c (by omega) ?_
        by_cases h8 : v9 > 8
        · exact fail (big h8)
        · have hi := inv (by omega)
          rcases hf with rfl | ⟨rfl, hiv⟩
          · exact fail (hi.no rfl)
          · have hx := hi.go rfl
            have e0 : v9.toNat - i = 0 := by omega
            rw [e0, EL] at hx
            have : readE n l s = ⟨⟨0, 0, 0, 0, ⟨#[]⟩⟩, ⟨0, 0, []⟩, n, l, false⟩ := by
              rw [readE, hX, hx]
              simp only
              rw [if_neg]
              rintro ⟨g1, g2⟩
              rcases hb with hb | hb | hb
              · cases hb
              · exact g1 hb
              · exact hb g2
            rw [this] at h; exact h
      cases b with
      | true => repeat' (first | exact out (.inl rfl) | refine gE_x ?_ | refine gE_u ?_ | refine gP_u ?_ | refine gP_TT ?_ | refine gP_FF ?_ | refine gP_TF ?_ | refine gP_FT ?_ | refine gP_yt (by first | with_reducible assumption | omega) ?_ | refine gP_nt (by first | with_reducible assumption | omega) ?_ | refine gP_yf (by first | with_reducible assumption | omega) ?_ | refine gP_nf (by first | with_reducible assumption | omega) ?_ | refine gP_on (by with_reducible assumption) ?_ | refine gP_offt (by with_reducible assumption) ?_ | refine gP_offf (by with_reducible assumption) ?_ | refine pk_t (by with_reducible assumption) rfl ?_ | refine pk_f (by with_reducible assumption) rfl ?_ | refine pk_y (by first | with_reducible assumption | omega) rfl ?_ | refine pk_n (by first | with_reducible assumption | omega) rfl ?_ | refine pk_T rfl ?_ | refine pk_F rfl ?_ | refine cndP_T ?_ | refine cndP_F ?_ | refine cndP_yes (by first | with_reducible assumption | omega) ?_ | refine cndP_no (by first | with_reducible assumption | omega) ?_ | refine cndP_on (by with_reducible assumption) ?_ | refine cndP_off (by with_reducible assumption) ?_ | refine prP_lss ?_ | refine prP_leq ?_ | refine prP_gtr ?_ | refine prP_geq ?_ | refine prP_eqd ?_ | refine prP_ned ?_ | refine prP_notnd ?_ | refine prP_notd ?_ | refine prP_lnS ?_ | refine prP_inc (by omega) ?_ | refine prP_add ⟨by omega, by omega⟩ ?_ | refine prP_sub ⟨by omega, by omega⟩ ?_ | refine prP_addw ?_ | refine prP_subw ?_ | refine prP_rem (by omega) (by omega) ?_ | refine prP_quo (by omega) ⟨by omega, by omega⟩ (by omega) ?_ | refine prP_eqSd ?_ | refine prP_neSd ?_ | refine prP_catS (by first | omega | (simp only [ByteArray.size_append]; omega)) ?_ | refine prP_eqB ?_ | refine prP_neB ?_ | refine ixW_iv (by omega) ?_ | refine ixW_c (by omega) (by omega) ?_ | refine ldI (by omega) ?_ | refine ldS (by omega) ?_ | refine ldg_ob (by omega) ?_ | refine ldg_wk (by omega) ?_ | refine ldg_po (by omega) ?_ | refine ldg_an (by omega) ?_ | refine ldg_nd (by omega) ?_ | refine ldc_ob (by omega) (by decide) rfl ?_ | refine ldc_ob0 (by omega) rfl ?_ | refine ldc_wk (by omega) (by decide) rfl ?_ | refine ldc_wk0 (by omega) rfl ?_ | refine ldc_po (by omega) (by decide) rfl ?_ | refine ldc_po0 (by omega) rfl ?_ | refine ldc_an (by omega) (by decide) rfl ?_ | refine ldc_an0 (by omega) rfl ?_ | refine ldc_nd (by omega) (by decide) rfl ?_ | refine ldc_nd0 (by omega) rfl ?_ | refine ldf_ob (by omega) (by omega) ?_ | refine ldl_ob (by omega) ?_ | refine ldf_nd (by omega) (by omega) ?_ | refine ldl_nd (by omega) ?_ | refine ldf_an (by omega) (by omega) ?_ | refine ldl_an (by omega) ?_ | refine ldg_tR (by omega) rfl rfl ?_ | refine ldc_tI (by omega) ?_ | refine ldc_tS (by omega) ?_ | refine ldc_tR (by omega) (by decide) rfl ?_ | refine ldc_tR0 (by omega) rfl ?_ | refine apW_p (by first | exact flat_tI _ | exact flat_tS _ | exact flat_tW _ | exact flat_tP _ | rfl) (by omega) ?_ | refine apW_n (by omega) ?_ | refine cndP_d (fun _ => ?_) (fun _ => ?_) | refine pk_sd rfl rfl (fun _ => ?_) (fun _ => ?_) | refine pk_sb rfl rfl (fun _ => ?_) (fun _ => ?_) | refine gP_dt (fun _ => ?_) (fun _ => ?_) | refine gP_df (fun _ => ?_) (fun _ => ?_) | refine cndP_i (fun _ => ?_) (fun _ => ?_) | refine gP_ct (fun _ => ?_) (fun _ => ?_) | refine gP_cf (fun _ => ?_) (fun _ => ?_) | refine prP_not ?_ | simp only [cnt_tO, cnt_tW, cnt_tP, cnt_tA, cnt_tN, cnt_tI, cnt_tS, cnt1_1, cnt1_0, cnt2_1, cnt3_1, cnt5_1, cnt6_1, cnt8_1, nx_0, nx_1, nx_2, nx_3, nx_4, nx_5, nx_6, nxc_0, nxc_1, nxc_2, nxc_3, nxc_4, nxc_5])
      | false =>
        repeat' (first | exact out (.inr (.inl (by assumption))) | exact out (.inr (.inr (by assumption))) | refine gE_x ?_ | refine gE_u ?_ | refine gP_u ?_ | refine gP_TT ?_ | refine gP_FF ?_ | refine gP_TF ?_ | refine gP_FT ?_ | refine gP_yt (by first | with_reducible assumption | omega) ?_ | refine gP_nt (by first | with_reducible assumption | omega) ?_ | refine gP_yf (by first | with_reducible assumption | omega) ?_ | refine gP_nf (by first | with_reducible assumption | omega) ?_ | refine gP_on (by with_reducible assumption) ?_ | refine gP_offt (by with_reducible assumption) ?_ | refine gP_offf (by with_reducible assumption) ?_ | refine pk_t (by with_reducible assumption) rfl ?_ | refine pk_f (by with_reducible assumption) rfl ?_ | refine pk_y (by first | with_reducible assumption | omega) rfl ?_ | refine pk_n (by first | with_reducible assumption | omega) rfl ?_ | refine pk_T rfl ?_ | refine pk_F rfl ?_ | refine cndP_T ?_ | refine cndP_F ?_ | refine cndP_yes (by first | with_reducible assumption | omega) ?_ | refine cndP_no (by first | with_reducible assumption | omega) ?_ | refine cndP_on (by with_reducible assumption) ?_ | refine cndP_off (by with_reducible assumption) ?_ | refine prP_lss ?_ | refine prP_leq ?_ | refine prP_gtr ?_ | refine prP_geq ?_ | refine prP_eqd ?_ | refine prP_ned ?_ | refine prP_notnd ?_ | refine prP_notd ?_ | refine prP_lnS ?_ | refine prP_inc (by omega) ?_ | refine prP_add ⟨by omega, by omega⟩ ?_ | refine prP_sub ⟨by omega, by omega⟩ ?_ | refine prP_addw ?_ | refine prP_subw ?_ | refine prP_rem (by omega) (by omega) ?_ | refine prP_quo (by omega) ⟨by omega, by omega⟩ (by omega) ?_ | refine prP_eqSd ?_ | refine prP_neSd ?_ | refine prP_catS (by first | omega | (simp only [ByteArray.size_append]; omega)) ?_ | refine prP_eqB ?_ | refine prP_neB ?_ | refine ixW_iv (by omega) ?_ | refine ixW_c (by omega) (by omega) ?_ | refine ldI (by omega) ?_ | refine ldS (by omega) ?_ | refine ldg_ob (by omega) ?_ | refine ldg_wk (by omega) ?_ | refine ldg_po (by omega) ?_ | refine ldg_an (by omega) ?_ | refine ldg_nd (by omega) ?_ | refine ldc_ob (by omega) (by decide) rfl ?_ | refine ldc_ob0 (by omega) rfl ?_ | refine ldc_wk (by omega) (by decide) rfl ?_ | refine ldc_wk0 (by omega) rfl ?_ | refine ldc_po (by omega) (by decide) rfl ?_ | refine ldc_po0 (by omega) rfl ?_ | refine ldc_an (by omega) (by decide) rfl ?_ | refine ldc_an0 (by omega) rfl ?_ | refine ldc_nd (by omega) (by decide) rfl ?_ | refine ldc_nd0 (by omega) rfl ?_ | refine ldf_ob (by omega) (by omega) ?_ | refine ldl_ob (by omega) ?_ | refine ldf_nd (by omega) (by omega) ?_ | refine ldl_nd (by omega) ?_ | refine ldf_an (by omega) (by omega) ?_ | refine ldl_an (by omega) ?_ | refine ldg_tR (by omega) rfl rfl ?_ | refine ldc_tI (by omega) ?_ | refine ldc_tS (by omega) ?_ | refine ldc_tR (by omega) (by decide) rfl ?_ | refine ldc_tR0 (by omega) rfl ?_ | refine apW_p (by first | exact flat_tI _ | exact flat_tS _ | exact flat_tW _ | exact flat_tP _ | rfl) (by omega) ?_ | refine apW_n (by omega) ?_ | refine cndP_d (fun _ => ?_) (fun _ => ?_) | refine pk_sd rfl rfl (fun _ => ?_) (fun _ => ?_) | refine pk_sb rfl rfl (fun _ => ?_) (fun _ => ?_) | refine gP_dt (fun _ => ?_) (fun _ => ?_) | refine gP_df (fun _ => ?_) (fun _ => ?_) | refine cndP_i (fun _ => ?_) (fun _ => ?_) | refine gP_ct (fun _ => ?_) (fun _ => ?_) | refine gP_cf (fun _ => ?_) (fun _ => ?_) | refine prP_not ?_ | simp only [cnt_tO, cnt_tW, cnt_tP, cnt_tA, cnt_tN, cnt_tI, cnt_tS, cnt1_1, cnt1_0, cnt2_1, cnt3_1, cnt5_1, cnt6_1, cnt8_1, nx_0, nx_1, nx_2, nx_3, nx_4, nx_5, nx_6, nxc_0, nxc_1, nxc_2, nxc_3, nxc_4, nxc_5])
        rename_i g1 g2
        have hiv : (i : Int) = v9 := by rcases hf with hf | ⟨_, hf⟩; cases hf; exact hf
        have h8 : ¬ v9 > 8 := fun h8 => g1 (show1_long (by simp only; omega))
        have hx := (inv (by omega)).go rfl
        have e0 : v9.toNat - i = 0 := by omega
        rw [e0, EL] at hx
        have : readE n l s = ⟨⟨v1, A, v3, Cc, nm⟩, ⟨v7, Vv, acc⟩, (show1 n l ⟨v1, A, v3, Cc, nm⟩ ⟨v7, Vv, acc⟩).2.1, (show1 n l ⟨v1, A, v3, Cc, nm⟩ ⟨v7, Vv, acc⟩).2.2, true⟩ := by
          rw [readE, hX, hx]
          simp only
          rw [if_pos ⟨g1, Decidable.not_not.1 g2⟩]
        rw [this] at h; exact h
    refine prP_lss (gE_x (gE_x (gE_x (gE_x (gP_dt (fun hlt => ?_) fun hge => ?_)))))
    · refine prP_not (pk_y hlt rfl ?_)
      cases b with
      | true => exact cndP_F (fin (.inl rfl))
      | false =>
        refine cndP_T ?_
        refine signed_c (X := X) (b := false) (g := fun v r' => if v9 > 8 then none else EL (fun fr => some (⟨v1, A, v3, Cc, nm⟩, ⟨v7, Vv, fr⟩)) (v9.toNat - (i + 1)) (acc ++ [w64 (la + v)]) (w64 (la + v)) r') (by omega) ?_ fun v r' b' i' _ z' zz => ?_
        · by_cases h8 : v9 > 8
          · refine ⟨fun _ => ?_, fun hh => by cases hh⟩
            rw [big h8]
            cases rdI r with
            | none => rfl
            | some p => simp [h8]
          · have hi := inv (by omega)
            obtain ⟨m, hm⟩ : ∃ m, v9.toNat - i = m + 1 := ⟨v9.toNat - i - 1, by omega⟩
            have hm2 : v9.toNat - (i + 1) = m := by omega
            rw [hm, EL] at hi
            rw [hm2]
            simpa [h8] using hi
        · have hz := sz rfl
          refine prP_addw (apW_p rfl (by omega) (prP_inc (by omega) ?_))
          have := hR (i + 1, w64 (la + v), acc ++ [w64 (la + v)], r', b') ⟨fun h8 => by rw [if_neg (by omega)] at i'; exact i', big, by simp only; omega, by simp [len], fun hb => by simp only at hb ⊢; have := zz hb; omega, by simp only; omega, by simp only; omega⟩ (by simp only; omega)
          simp only at this
          rw [← tI_snoc] at this
          exact this
    · exact pk_n hge rfl (cndP_F (fin (by
        cases b with
        | true => exact .inl rfl
        | false => exact .inr ⟨rfl, by omega⟩)))
  · refine prP_eqd (cndP_d (fun h0 => ?_) fun h0 => ?_)
    · refine text_c (X := X) (g := fun v r => E6 ⟨v1, A, v3, Cc, v⟩ r) (by omega) (by rw [E5, if_pos h0] at i5; exact i5) fun v6 r6 b6 i6 _ z6 => ?_
      exact hj _ _ ⟨rfl, v6, r6, b6, rfl, i6, by omega⟩
    · refine prP_leq (cndP_d (fun h1 => ?_) fun h1 => ?_)
      · refine prP_sub ⟨by omega, by omega⟩ (ixW_c (by omega) (by omega) (ldS (by omega) (hj _ _ ⟨rfl, _, r5, b5, rfl, ?_, by omega⟩)))
        rw [E5, if_neg h0, if_pos h1] at i5; exact i5
      · rw [E5, if_neg h0, if_neg h1] at i5
        exact hj _ _ ⟨rfl, _, r5, true, rfl, ⟨fun hh => (by cases hh), fun _ => i5.off⟩, by omega⟩
end Go.Proofs.Ytnhicpkhkaihoaa.P
