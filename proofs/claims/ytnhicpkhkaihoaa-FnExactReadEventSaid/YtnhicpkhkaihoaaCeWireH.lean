/- Events, as the reference reads them. -/
import Derived.Test.YtnhicpkhkaihoaaCeWireG
namespace Go.Proofs.Ytnhicpkhkaihoaa.P
open Go Go.Proofs.Ytnhicpkhkaihoaa Go.Proofs.Ytnhicpkhkaihoaa.Eng
set_option maxHeartbeats 4000000
set_option linter.unusedVariables false
set_option linter.unusedSimpArgs false
attribute [local irreducible] prP gP gE gF cndP ixW ldc ldg ldl stc stg scW mkW apW loopP cl2 joinP pre2
variable {w0 : World}
def rdIs : Nat → ByteArray → Option (List Int × ByteArray)
  | 0, r => some ([], r)
  | m + 1, r => (rdI r).bind fun p => (rdIs m p.2).bind fun q => some (p.1 :: q.1, q.2)
theorem rdI_none {r : ByteArray} (h : (ri r).2 = 0) : rdI r = none := by rw [rdI, if_pos h]
theorem rdI_some {r : ByteArray} (h : (ri r).2 ≠ 0) : rdI r = some ((ri r).1, dr r (ri r).2.toNat) := by rw [rdI, if_neg h]
structure L10 (s : ByteArray) (a0 n : Nat) (q : Nat × List Int × Nat) : Prop where
  le : q.1 ≤ n
  len : q.2.1.length = q.1
  at_ : a0 ≤ q.2.2
  sz : q.2.2 ≤ s.size
  go : rdIs n (dr s a0) = (rdIs (n - q.1) (dr s q.2.2)).map fun p => (q.2.1 ++ p.1, p.2)
theorem spec_l10Ints_c {s : ByteArray} {a0 n : Nat} {K : J2} (hs : (s.size : Int) < 2 ^ 40) (ha : a0 ≤ s.size) (hn : n ≤ 8) (h1 : ∀ L a1, rdIs n (dr s a0) = some (L, dr s a1) → a0 ≤ a1 → a1 ≤ s.size → L.length = n → K [I a1] [tI L]) (h2 : ∀ L : List Int, rdIs n (dr s a0) = none → L.length = n → K [I (-1)] [tI L]) : cl2 ⟨Try.prog, w0⟩ 97 spec_l10Ints.sg [.string s, I a0, I n] [] K := by
  refine spec_l10Ints.cl2 ?_
  unfold spec_l10Ints.txt
  refine loopP_wf (α := Nat × List Int × Nat) (fun q => [.string s, iv q.2.2, I n, iv q.1]) (fun q => [tI q.2.1]) (fun q => n - q.1) (fun q => L10 s a0 n q) (0, [], a0) rfl rfl ⟨Nat.zero_le _, rfl, Nat.le_refl _, ha, by simp⟩ (fun R q hq hR => ?_)
  obtain ⟨i, L, a⟩ := q
  obtain ⟨le, len, at_, sz, go⟩ := hq
  simp only at le len at_ sz go
  simp only [cnt_tO, cnt_tW, cnt_tP, cnt_tA, cnt_tN, cnt_tI, cnt_tS, cnt1_1, cnt1_0, cnt2_1, cnt3_1, cnt5_1, cnt6_1, cnt8_1, nx_0, nx_1, nx_2, nx_3, nx_4, nx_5, nx_6, nxc_0, nxc_1, nxc_2, nxc_3, nxc_4, nxc_5]
  have hb := ri_bd (dr s a)
  rw [dr_size] at hb
  refine prP_lss (cndP_d (fun hlt => ?_) fun hge => ?_)
  · obtain ⟨m, hm⟩ : ∃ m, n - i = m + 1 := ⟨n - i - 1, by omega⟩
    rw [hm, rdIs] at go
    refine sc_f sz (spec_ReadInt_c (by rw [dr_size]; omega) (prP_eqd (cndP_d (fun h0 => ?_) fun h0 => ?_)))
    · rw [rdI_none h0] at go
      have go' : rdIs n (dr s a0) = none := by rw [go]; rfl
      have hz : repT (natOf (iv n)) [T.c (.int .i64 0)] = tI (List.replicate n 0) := by rw [natOf_iv]; simp [repT, tI]
      refine mkW_i' (n := n) (by omega) ?_
      rw [hz]
      exact h2 _ go' (by simp)
    · refine apW_p rfl (by omega) (prP_add ⟨by omega, by omega⟩ (prP_inc (by omega) ?_))
      have hd : dr (dr s a) (ri (dr s a)).2.toNat = dr s (a + (ri (dr s a)).2.toNat) := dr_dr _ _ _ (by omega)
      have := hR (i + 1, L ++ [(ri (dr s a)).1], a + (ri (dr s a)).2.toNat) ⟨by simp only; omega, by simp [len], by simp only; omega, by simp only; omega, ?_⟩ (by simp only; omega)
      · simp only at this
        rw [← tI_snoc] at this
        have e : (a : Int) + (ri (dr s a)).2 = ((a + (ri (dr s a)).2.toNat : Nat) : Int) := by omega
        rw [e]; exact this
      · simp only
        have hm2 : n - (i + 1) = m := by omega
        rw [hm2, go, rdI_some h0, hd]
        simp only [Option.bind_some]
        cases rdIs m (dr s (a + (ri (dr s a)).2.toNat)) with
        | none => rfl
        | some q => simp
  · have : n - i = 0 := by omega
    rw [this, rdIs] at go
    exact h1 L a (by rw [go]; simp) at_ sz (by omega)
theorem EL_rdIs {β : Type} (f : List Int → Option β) : ∀ (m : Nat) (acc : List Int) (last : Int) (r : ByteArray), EL f m acc last r = match rdIs m r with
    | none => none
    | some q => f (acc ++ (q.1.foldl (fun (p : List Int × Int) x => (p.1 ++ [w64 (p.2 + x)], w64 (p.2 + x))) ([], last)).1)
  | 0, acc, last, r => by simp [EL, rdIs]
  | m + 1, acc, last, r => by
    rw [EL, rdIs]
    cases rdI r with
    | none => rfl
    | some p =>
      simp only [Option.bind_some]
      rw [EL_rdIs f m]
      cases rdIs m p.2 with
      | none => rfl
      | some q =>
        simp only [Option.bind_some, List.foldl_cons, List.nil_append]
        have shift : ∀ (xs : List Int) (a b : List Int) (z : Int), (xs.foldl (fun (p : List Int × Int) x => (p.1 ++ [w64 (p.2 + x)], w64 (p.2 + x))) (a ++ b, z)).1 = a ++ (xs.foldl (fun (p : List Int × Int) x => (p.1 ++ [w64 (p.2 + x)], w64 (p.2 + x))) (b, z)).1 := by
          intro xs
          induction xs with
          | nil => intro a b z; rfl
          | cons x xs ih => intro a b z; rw [List.foldl_cons, List.foldl_cons, List.append_assoc]; exact ih _ _ _
        have := shift q.1 [w64 (last + p.1)] [] (w64 (last + p.1))
        rw [List.append_nil] at this
        rw [this, List.append_assoc]
def sums (last : Int) (l : List Int) : List Int × Int := l.foldl (fun (p : List Int × Int) x => (p.1 ++ [w64 (p.2 + x)], w64 (p.2 + x))) ([], last)
theorem sums_succ {last : Int} {l : List Int} {i : Nat} (hi : i < l.length) : sums last (l.take (i + 1)) = ((sums last (l.take i)).1 ++ [w64 ((sums last (l.take i)).2 + l[i])], w64 ((sums last (l.take i)).2 + l[i])) := by
  rw [sums, List.take_succ_eq_append_getElem hi, List.foldl_append]; rfl
theorem sums_len (last : Int) (l : List Int) : ∀ i, i ≤ l.length → (sums last (l.take i)).1.length = i
  | 0, _ => rfl
  | i + 1, hi => by rw [sums_succ (by omega)]; simp [sums_len last l i (by omega)]
def rdName (l : List ByteArray) (r : ByteArray) : Option (ByteArray × ByteArray) := (rdN r).bind fun p => if p.1 = 0 then rdT p.2 else if p.1 ≤ l.length then some (gS l (p.1 - 1).toNat, p.2) else none
theorem E4_name (l : List ByteArray) (kind a b c : Int) (r : ByteArray) : E4 l kind a b c r = (rdName l r).bind fun q => E6 ⟨kind, a, b, c, q.1⟩ q.2 := by
  rw [E4, rdName]
  cases rdN r with
  | none => rfl
  | some p =>
    simp only [Option.bind_some, E5]
    split
    · rfl
    · split <;> rfl
theorem E0_ints (last : Int) (l : List ByteArray) (s : ByteArray) : E0 last l s = (rdIs 4 s).bind fun q => E4 l (gI q.1 0) (w64 (last + gI q.1 1)) (gI q.1 2) (w64 (w64 (last + gI q.1 1) + gI q.1 3)) q.2 := by
  rw [E0]
  simp only [rdIs, E1, E2, E3]
  cases rdI s with
  | none => rfl
  | some p0 =>
    simp only [Option.bind_some]
    cases rdI p0.2 with
    | none => rfl
    | some p1 =>
      simp only [Option.bind_some]
      cases rdI p1.2 with
      | none => rfl
      | some p2 =>
        simp only [Option.bind_some]
        cases rdI p2.2 with
        | none => rfl
        | some p3 => rfl
theorem E7_ints (o : Op5) (code : Int) (r : ByteArray) : E7 o code r = (rdIs 1 r).bind fun q => E8 o code (w64 (o.a + gI q.1 0)) q.2 := by
  rw [E7]
  simp only [rdIs]
  cases rdI r with
  | none => rfl
  | some p => rfl
theorem E8_ints (o : Op5) (code val : Int) (r : ByteArray) : E8 o code val r = (rdN r).bind fun p => if p.1 > 8 then none else (rdIs p.1.toNat p.2).bind fun q => some (o, ⟨code, val, (sums o.a q.1).1⟩) := by
  rw [E8]
  congr 1
  funext p
  split
  · rfl
  · rw [EL_rdIs]
    cases rdIs p.1.toNat p.2 with
    | none => rfl
    | some q => simp [sums]
theorem rdN_none {r : ByteArray} (h : (rv r).2 = 0) : rdN r = none := by rw [rdN, if_pos h]
theorem rdN_some {r : ByteArray} (h : (rv r).2 ≠ 0) : rdN r = some ((rv r).1, dr r (rv r).2.toNat) := by rw [rdN, if_neg h]
theorem rdT_none {r : ByteArray} (h : (rt r).2 = 0) : rdT r = none := by rw [rdT, if_pos h]
theorem rdT_some {r : ByteArray} (h : (rt r).2 ≠ 0) : rdT r = some ((rt r).1, dr r (rt r).2.toNat) := by rw [rdT, if_neg h]
attribute [irreducible] rdIs rdName
theorem spec_l10Name_c {s : ByteArray} {a : Nat} {n : Value} {l : List ByteArray} {K : J2} (hl : l.length < 2 ^ 40) (hs : (s.size : Int) < 2 ^ 40) (ha : a ≤ s.size) (h1 : ∀ nm a1, rdName l (dr s a) = some (nm, dr s a1) → a ≤ a1 → a1 ≤ s.size → K [.string nm, I a1] []) (h2 : rdName l (dr s a) = none → K [.string ⟨#[]⟩, I (-1)] []) : cl2 ⟨Try.prog, w0⟩ 98 spec_l10Name.sg [n, .string s, I a] [tS l] K := by
  refine spec_l10Name.cl2 ?_
  unfold spec_l10Name.txt
  simp only [cnt_tO, cnt_tW, cnt_tP, cnt_tA, cnt_tN, cnt_tI, cnt_tS, cnt1_1, cnt1_0, cnt2_1, cnt3_1, cnt5_1, cnt6_1, cnt8_1, nx_0, nx_1, nx_2, nx_3, nx_4, nx_5, nx_6, nxc_0, nxc_1, nxc_2, nxc_3, nxc_4, nxc_5]
  have hb := rv_bd (dr s a)
  rw [dr_size] at hb
  refine sc_f ha (spec_ReadVar_c (by rw [dr_size]; omega) ?_)
  have miss : ((rv (dr s a)).2 = 0 ∨ (rv (dr s a)).1 > l.length) → K [.string ⟨#[]⟩, I (-1)] [] := fun hh => h2 (by
    rw [rdName]
    by_cases h0 : (rv (dr s a)).2 = 0
    · rw [rdN_none h0]; rfl
    · rw [rdN_some h0]
      simp only [Option.bind_some]
      rw [if_neg (by omega), if_neg (by omega)])
  repeat' (first | exact miss (by omega) | refine gE_x ?_ | refine gE_u ?_ | refine gP_u ?_ | refine gP_TT ?_ | refine gP_FF ?_ | refine gP_TF ?_ | refine gP_FT ?_ | refine gP_yt (by first | with_reducible assumption | omega) ?_ | refine gP_nt (by first | with_reducible assumption | omega) ?_ | refine gP_yf (by first | with_reducible assumption | omega) ?_ | refine gP_nf (by first | with_reducible assumption | omega) ?_ | refine gP_on (by with_reducible assumption) ?_ | refine gP_offt (by with_reducible assumption) ?_ | refine gP_offf (by with_reducible assumption) ?_ | refine pk_t (by with_reducible assumption) rfl ?_ | refine pk_f (by with_reducible assumption) rfl ?_ | refine pk_y (by first | with_reducible assumption | omega) rfl ?_ | refine pk_n (by first | with_reducible assumption | omega) rfl ?_ | refine pk_T rfl ?_ | refine pk_F rfl ?_ | refine cndP_T ?_ | refine cndP_F ?_ | refine cndP_yes (by first | with_reducible assumption | omega) ?_ | refine cndP_no (by first | with_reducible assumption | omega) ?_ | refine cndP_on (by with_reducible assumption) ?_ | refine cndP_off (by with_reducible assumption) ?_ | refine prP_lss ?_ | refine prP_leq ?_ | refine prP_gtr ?_ | refine prP_geq ?_ | refine prP_eqd ?_ | refine prP_ned ?_ | refine prP_notnd ?_ | refine prP_notd ?_ | refine prP_lnS ?_ | refine prP_inc (by omega) ?_ | refine prP_add ⟨by omega, by omega⟩ ?_ | refine prP_sub ⟨by omega, by omega⟩ ?_ | refine prP_addw ?_ | refine prP_subw ?_ | refine prP_rem (by omega) (by omega) ?_ | refine prP_quo (by omega) ⟨by omega, by omega⟩ (by omega) ?_ | refine prP_eqSd ?_ | refine prP_neSd ?_ | refine prP_catS (by first | omega | (simp only [ByteArray.size_append]; omega)) ?_ | refine prP_eqB ?_ | refine prP_neB ?_ | refine ixW_iv (by omega) ?_ | refine ixW_c (by omega) (by omega) ?_ | refine ldI (by omega) ?_ | refine ldS (by omega) ?_ | refine ldg_ob (by omega) ?_ | refine ldg_wk (by omega) ?_ | refine ldg_po (by omega) ?_ | refine ldg_an (by omega) ?_ | refine ldg_nd (by omega) ?_ | refine ldc_ob (by omega) (by decide) rfl ?_ | refine ldc_ob0 (by omega) rfl ?_ | refine ldc_wk (by omega) (by decide) rfl ?_ | refine ldc_wk0 (by omega) rfl ?_ | refine ldc_po (by omega) (by decide) rfl ?_ | refine ldc_po0 (by omega) rfl ?_ | refine ldc_an (by omega) (by decide) rfl ?_ | refine ldc_an0 (by omega) rfl ?_ | refine ldc_nd (by omega) (by decide) rfl ?_ | refine ldc_nd0 (by omega) rfl ?_ | refine ldf_ob (by omega) (by omega) ?_ | refine ldl_ob (by omega) ?_ | refine ldf_nd (by omega) (by omega) ?_ | refine ldl_nd (by omega) ?_ | refine ldf_an (by omega) (by omega) ?_ | refine ldl_an (by omega) ?_ | refine ldg_tR (by omega) rfl rfl ?_ | refine ldc_tI (by omega) ?_ | refine ldc_tS (by omega) ?_ | refine ldc_tR (by omega) (by decide) rfl ?_ | refine ldc_tR0 (by omega) rfl ?_ | refine apW_p (by first | exact flat_tI _ | exact flat_tS _ | exact flat_tW _ | exact flat_tP _ | rfl) (by omega) ?_ | refine apW_n (by omega) ?_ | refine cndP_d (fun _ => ?_) (fun _ => ?_) | refine pk_sd rfl rfl (fun _ => ?_) (fun _ => ?_) | refine pk_sb rfl rfl (fun _ => ?_) (fun _ => ?_) | refine gP_dt (fun _ => ?_) (fun _ => ?_) | refine gP_df (fun _ => ?_) (fun _ => ?_) | refine cndP_i (fun _ => ?_) (fun _ => ?_) | refine gP_ct (fun _ => ?_) (fun _ => ?_) | refine gP_cf (fun _ => ?_) (fun _ => ?_) | refine prP_not ?_ | simp only [cnt_tO, cnt_tW, cnt_tP, cnt_tA, cnt_tN, cnt_tI, cnt_tS, cnt1_1, cnt1_0, cnt2_1, cnt3_1, cnt5_1, cnt6_1, cnt8_1, nx_0, nx_1, nx_2, nx_3, nx_4, nx_5, nx_6, nxc_0, nxc_1, nxc_2, nxc_3, nxc_4, nxc_5])
  · rename_i g0 g1 g2
    have hd : dr (dr s a) (rv (dr s a)).2.toNat = dr s (a + (rv (dr s a)).2.toNat) := dr_dr _ _ _ (by omega)
    have := h1 (gS l ((rv (dr s a)).1 - 1).toNat) (a + (rv (dr s a)).2.toNat) (by rw [rdName, rdN_some g0]; simp only [Option.bind_some]; rw [if_neg (by omega), if_pos (by omega), hd]) (by omega) (by omega)
    have e : (a : Int) + (rv (dr s a)).2 = ((a + (rv (dr s a)).2.toNat : Nat) : Int) := by omega
    rw [e]; exact this
  · rename_i g0 g1 g2
    have hd : dr (dr s a) (rv (dr s a)).2.toNat = dr s (a + (rv (dr s a)).2.toNat) := dr_dr _ _ _ (by omega)
    have e : (a : Int) + (rv (dr s a)).2 = ((a + (rv (dr s a)).2.toNat : Nat) : Int) := by omega
    rw [e]
    have hn : rdName l (dr s a) = rdT (dr s (a + (rv (dr s a)).2.toNat)) := by
      rw [rdName, rdN_some g0]; simp only [Option.bind_some]; rw [if_pos (by omega), hd]
    have ht := rt_bd (dr s (a + (rv (dr s a)).2.toNat))
    rw [dr_size] at ht
    refine sc_f (by omega) (spec_ReadText_c (by rw [dr_size]; omega) (prP_eqd (cndP_d (fun t0 => ?_) fun t0 => ?_)))
    · exact h2 (by rw [hn, rdT_none t0])
    · have hd2 := dr_dr s (a + (rv (dr s a)).2.toNat) (rt (dr s (a + (rv (dr s a)).2.toNat))).2.toNat (by omega)
      have := h1 _ _ (by rw [hn, rdT_some t0, hd2]) (by omega) (by omega)
      refine prP_add ⟨by omega, by omega⟩ (prP_add ⟨by omega, by omega⟩ ?_)
      have e2 : (a : Int) + (rv (dr s a)).2 + (rt (dr s (a + (rv (dr s a)).2.toNat))).2 = ((a + (rv (dr s a)).2.toNat + (rt (dr s (a + (rv (dr s a)).2.toNat))).2.toNat : Nat) : Int) := by omega
      rw [e2]; exact this
theorem ldc_at {l : List Int} {i : Nat} {K : Value → Prop} (hi : i < l.length) (h : K (I (gI l i))) : ixW l.length (I (i : Int)) fun t => ldc (tI l) [] (natOf t * 1) K := ixW_iv hi (ldI hi h)
theorem spec_ReadEvent_c {n : Int} {l : List ByteArray} {s : ByteArray} {K : J2} (hl : l.length < 2 ^ 40) (hs : (s.size : Int) < 2 ^ 40)
    (h : K [I (readE n l s).o.kind, I (readE n l s).o.a, I (readE n l s).o.b, I (readE n l s).o.c, .string (readE n l s).o.site, I (readE n l s).a.code, I (readE n l s).a.val, I (readE n l s).last, .bool (readE n l s).ok] [tI (readE n l s).a.freed, tS (readE n l s).sites]) :
    cl2 ⟨Try.prog, w0⟩ 33 spec_ReadEvent.sg [I n, .string s] [tS l] K := by
  refine spec_ReadEvent.cl2 ?_
  unfold spec_ReadEvent.txt
  simp only [cnt_tO, cnt_tW, cnt_tP, cnt_tA, cnt_tN, cnt_tI, cnt_tS, cnt1_1, cnt1_0, cnt2_1, cnt3_1, cnt5_1, cnt6_1, cnt8_1, nx_0, nx_1, nx_2, nx_3, nx_4, nx_5, nx_6, nxc_0, nxc_1, nxc_2, nxc_3, nxc_4, nxc_5]
  have fail : E0 n l s = none → K [I 0, I 0, I 0, I 0, .string ⟨#[]⟩, I 0, I 0, I n, .bool false] [[], [] ++ tS l] := fun hx => by
    have : readE n l s = ⟨⟨0, 0, 0, 0, ⟨#[]⟩⟩, ⟨0, 0, []⟩, n, l, false⟩ := by rw [readE, hx]
    rw [this] at h; exact h
  refine apW_p (flat_tS l) (by omega) ?_
  refine spec_l10Ints_c (a0 := 0) (n := 4) hs (Nat.zero_le _) (by omega) (fun L a1 hL _ g1 hLl => ?_) fun L hL _ => ?_
  rotate_left
  · refine prP_lss (cndP_yes (by omega) (fail ?_))
    rw [dr_0] at hL
    rw [E0_ints, hL]; rfl
  rw [dr_0] at hL
  simp only [cnt_tO, cnt_tW, cnt_tP, cnt_tA, cnt_tN, cnt_tI, cnt_tS, cnt1_1, cnt1_0, cnt2_1, cnt3_1, cnt5_1, cnt6_1, cnt8_1, nx_0, nx_1, nx_2, nx_3, nx_4, nx_5, nx_6, nxc_0, nxc_1, nxc_2, nxc_3, nxc_4, nxc_5]
  refine prP_lss (cndP_no (by omega) ?_)
  refine ldc_at (i := 0) (by omega) (ldc_at (i := 1) (by omega) (prP_addw (ldc_at (i := 2) (by omega) (ldc_at (i := 3) (by omega) (prP_addw ?_)))))
  have hX := E0_ints n l s
  rw [hL] at hX
  simp only [Option.bind_some] at hX
  have c1 : w64 (gI L 1 + n) = w64 (n + gI L 1) := by rw [Int.add_comm]
  rw [c1]
  generalize w64 (n + gI L 1) = A at hX ⊢
  have c2 : w64 (gI L 3 + A) = w64 (A + gI L 3) := by rw [Int.add_comm]
  rw [c2]
  generalize w64 (A + gI L 3) = Cc at hX ⊢
  generalize gI L 0 = Kd at hX ⊢
  generalize gI L 2 = B at hX ⊢
  rw [E4_name] at hX
  refine spec_l10Name_c hl hs g1 (fun nm a2 hN _ g2 => ?_) fun hN => ?_
  rotate_left
  · refine prP_lss (cndP_yes (by omega) (fail ?_))
    rw [hX, hN]; rfl
  rw [hN] at hX
  simp only [Option.bind_some] at hX
  refine prP_lss (cndP_no (by omega) ?_)
  have hb := rv_bd (dr s a2)
  rw [dr_size] at hb
  refine sc_f g2 (spec_ReadVar_c (by rw [dr_size]; omega) (prP_add ⟨by omega, by omega⟩ ?_))
  have e3 : (a2 : Int) + (rv (dr s a2)).2 = ((a2 + (rv (dr s a2)).2.toNat : Nat) : Int) := by omega
  simp only [nx_0, nx_1]
  rw [e3]
  have hd3 : dr (dr s a2) (rv (dr s a2)).2.toNat = dr s (a2 + (rv (dr s a2)).2.toNat) := dr_dr _ _ _ (by omega)
  refine spec_l10Ints_c (n := 1) hs (by omega) (by omega) (fun W a3 hW _ g3 hWl => ?_) fun W hW _ => ?_
  rotate_left
  · refine prP_eqd (gE_x (gP_df (fun h0 => prP_lss (pk_n h0 rfl (cndP_yes (by omega) (fail ?_)))) fun h0 => pk_y h0 rfl (cndP_T (fail ?_))))
    · rw [hX, E6, rdN_some h0]
      simp only [Option.bind_some]
      rw [hd3, E7_ints, hW]; rfl
    · rw [hX, E6, rdN_none h0]; rfl
  refine prP_eqd (gE_x (gP_df (fun h0 => prP_lss (pk_n h0 rfl (cndP_no (by omega) ?_))) fun h0 => pk_y h0 rfl (cndP_T (fail ?_))))
  rotate_left
  · rw [hX, E6, rdN_none h0]; rfl
  rw [E6, rdN_some h0] at hX
  simp only [Option.bind_some] at hX
  rw [hd3, E7_ints, hW] at hX
  simp only [Option.bind_some] at hX
  have hb4 := rv_bd (dr s a3)
  rw [dr_size] at hb4
  refine sc_f g3 (spec_ReadVar_c (by rw [dr_size]; omega) ?_)
  rw [E8_ints] at hX
  refine prP_eqd (gE_x (gP_df (fun h4 => prP_gtr ?_) fun h4 => pk_y h4 rfl (cndP_T (fail ?_))))
  rotate_left
  · rw [hX, rdN_none h4]; rfl
  rw [rdN_some h4] at hX
  simp only [Option.bind_some] at hX
  refine pk_n h4 rfl (cndP_d (fun h8 => fail ?_) fun h8 => ?_)
  · rw [hX, if_pos h8]
  rw [if_neg h8] at hX
  simp only [cnt_tO, cnt_tW, cnt_tP, cnt_tA, cnt_tN, cnt_tI, cnt_tS, cnt1_1, cnt1_0, cnt2_1, cnt3_1, cnt5_1, cnt6_1, cnt8_1, nx_0, nx_1, nx_2, nx_3, nx_4, nx_5, nx_6, nxc_0, nxc_1, nxc_2, nxc_3, nxc_4, nxc_5]
  refine ldc_at (l := W) (i := 0) (by omega) (prP_addw ?_)
  have c5 : w64 (gI W 0 + A) = w64 (A + gI W 0) := by rw [Int.add_comm]
  rw [c5]
  generalize w64 (A + gI W 0) = Vv at hX ⊢
  have hd5 : dr (dr s a3) (rv (dr s a3)).2.toNat = dr s (a3 + (rv (dr s a3)).2.toNat) := dr_dr _ _ _ (by omega)
  rw [hd5] at hX
  have e5 : (a3 : Int) + (rv (dr s a3)).2 = ((a3 + (rv (dr s a3)).2.toNat : Nat) : Int) := by omega
  obtain ⟨m, hm⟩ : ∃ m : Nat, (rv (dr s a3)).1 = m := ⟨(rv (dr s a3)).1.toNat, by omega⟩
  refine prP_add ⟨by omega, by omega⟩ ?_
  rw [e5, hm]
  rw [hm, Int.toNat_natCast] at hX
  have rest : ∀ (F : List Int) (en : Int), F.length = m → (en < 0 → E0 n l s = none) → (0 ≤ en → E0 n l s = some (⟨Kd, A, B, Cc, nm⟩, ⟨(rv (dr s a2)).1, Vv, (sums A F).1⟩)) →
      loopP (fun r40 x38 k39 => (prP (bnI .lss (nx x38 3) (iv (cnt 1 (nxc k39 0)))) fun t139_55 => cndP t139_55 (ixW (cnt 1 (nxc k39 0)) (nx x38 3) fun t145_56 => ldc (nxc k39 0) [] ((natOf t145_56) * 1) fun t146_57 => prP (bnI .add (nx x38 2) t146_57) fun t147_58 => apW [T.c t147_58] true (cnt 1 (nxc k39 2)) (cnt 1 [T.c t147_58]) 8 (prP (bnI .add (nx x38 3) (.int .i64 1)) fun t141_59 => r40 [(nx x38 0), (nx x38 1), t147_58, t141_59, (nx x38 4), (nx x38 5), (nx x38 6), (nx x38 7), (nx x38 8), (nx x38 9), (nx x38 10), (nx x38 11), (nx x38 12), (nx x38 13), (nx x38 14), (nx x38 15), (nx x38 16), (nx x38 17), (nx x38 18), (nx x38 19), (nx x38 20)] [(nxc k39 0), (nxc k39 1), ((nxc k39 2) ++ [T.c t147_58])])) (
        cl2 ⟨Try.prog, w0⟩ 52 spec_ShowEvent.sg [(nx x38 4), (nx x38 14), (nx x38 15), (nx x38 16), (nx x38 17), (nx x38 18), (nx x38 19), (nx x38 20)] [tS l, (nxc k39 2)] fun v60 d61 => prP (bnI .lss (nx x38 1) (.int .i64 0)) fun t162_62 => gE t162_62 (gE t162_62 (gP t162_62 false (prP (bnS .neq (nx v60 0) (nx x38 0))) fun t166_63 => prP (pk t162_62 (.bool true) t166_63) fun t167_64 => gE t167_64 (gP t167_64 false (prP (bnS .eql (nx x38 0) (.string { data := #[] }))) fun t170_65 => prP (pk t167_64 (.bool true) t170_65) fun t171_66 => cndP t171_66 (
          K [(.int .i64 0), (.int .i64 0), (.int .i64 0), (.int .i64 0), (.string { data := #[] }), (.int .i64 0), (.int .i64 0), (nx x38 13), (.bool false)] [[], (nxc k39 1)]) (
          K [(nx x38 14), (nx x38 15), (nx x38 16), (nx x38 17), (nx x38 18), (nx x38 19), (nx x38 20), (nx v60 1), (.bool true)] [(nxc k39 2), (nxc d61 0)]))))))) [.string s, I en, I A, I 0, I n, I 0, I 0, I 0, I 0, .string { data := #[] }, I 0, I 0, I 0, I n, I Kd, I A, I B, I Cc, .string nm, I (rv (dr s a2)).1, I Vv] [tI F, ([] ++ tS l), []] := fun F en hF hne hpe => by
    refine loopP_from (fun i => [.string s, I en, I (sums A (F.take i)).2, iv i, I n, I 0, I 0, I 0, I 0, .string { data := #[] }, I 0, I 0, I 0, I n, I Kd, I A, I B, I Cc, .string nm, I (rv (dr s a2)).1, I Vv]) (fun i => [tI F, ([] ++ tS l), tI (sums A (F.take i)).1]) F.length (fun _ => True) rfl rfl trivial (fun R i hi _ hR => ?_)
    have hsl := sums_len A F i hi
    simp only [cnt_tO, cnt_tW, cnt_tP, cnt_tA, cnt_tN, cnt_tI, cnt_tS, cnt1_1, cnt1_0, cnt2_1, cnt3_1, cnt5_1, cnt6_1, cnt8_1, nx_0, nx_1, nx_2, nx_3, nx_4, nx_5, nx_6, nxc_0, nxc_1, nxc_2, nxc_3, nxc_4, nxc_5]
    refine prP_lss (cndP_d (fun hlt => ?_) fun hge => ?_)
    · have hlt : i < F.length := by omega
      have := hR hlt trivial
      rw [sums_succ hlt] at this
      simp only at this
      rw [← tI_snoc, gI_eq hlt] at this
      exact ixW_iv hlt (ldI hlt (prP_addw (apW_p rfl (by omega) (prP_inc (by omega) this))))
    · have : i = F.length := by omega
      subst this
      rw [List.take_length] at hsl ⊢
      refine spec_ShowEvent_c hl (by omega) ?_
      have hsh : showR n l Kd A B Cc nm (rv (dr s a2)).1 Vv (sums A F).1 = show1 n l ⟨Kd, A, B, Cc, nm⟩ ⟨(rv (dr s a2)).1, Vv, (sums A F).1⟩ := by rw [show1]
      rw [hsh]
      have bad : (en < 0 ∨ (show1 n l ⟨Kd, A, B, Cc, nm⟩ ⟨(rv (dr s a2)).1, Vv, (sums A F).1⟩).1 ≠ s ∨ s = ⟨#[]⟩) → K [I 0, I 0, I 0, I 0, .string ⟨#[]⟩, I 0, I 0, I n, .bool false] [[], [] ++ tS l] := fun hh => by
        rcases Int.lt_or_le en 0 with h1 | h1
        · exact fail (hne h1)
        · have : readE n l s = ⟨⟨0, 0, 0, 0, ⟨#[]⟩⟩, ⟨0, 0, []⟩, n, l, false⟩ := by
            rw [readE, hpe h1]
            simp only
            rw [if_neg]
            rintro ⟨q1, q2⟩
            rcases hh with hh | hh | hh
            · omega
            · exact hh q2
            · exact q1 (q2.trans hh)
          rw [this] at h; exact h
      repeat' (first | exact bad (.inl (by with_reducible assumption)) | exact bad (.inr (.inl (by with_reducible assumption))) | exact bad (.inr (.inr (by with_reducible assumption))) | refine gE_x ?_ | refine gE_u ?_ | refine gP_u ?_ | refine gP_TT ?_ | refine gP_FF ?_ | refine gP_TF ?_ | refine gP_FT ?_ | refine gP_yt (by first | with_reducible assumption | omega) ?_ | refine gP_nt (by first | with_reducible assumption | omega) ?_ | refine gP_yf (by first | with_reducible assumption | omega) ?_ | refine gP_nf (by first | with_reducible assumption | omega) ?_ | refine gP_on (by with_reducible assumption) ?_ | refine gP_offt (by with_reducible assumption) ?_ | refine gP_offf (by with_reducible assumption) ?_ | refine pk_t (by with_reducible assumption) rfl ?_ | refine pk_f (by with_reducible assumption) rfl ?_ | refine pk_y (by first | with_reducible assumption | omega) rfl ?_ | refine pk_n (by first | with_reducible assumption | omega) rfl ?_ | refine pk_T rfl ?_ | refine pk_F rfl ?_ | refine cndP_T ?_ | refine cndP_F ?_ | refine cndP_yes (by first | with_reducible assumption | omega) ?_ | refine cndP_no (by first | with_reducible assumption | omega) ?_ | refine cndP_on (by with_reducible assumption) ?_ | refine cndP_off (by with_reducible assumption) ?_ | refine prP_lss ?_ | refine prP_leq ?_ | refine prP_gtr ?_ | refine prP_geq ?_ | refine prP_eqd ?_ | refine prP_ned ?_ | refine prP_notnd ?_ | refine prP_notd ?_ | refine prP_lnS ?_ | refine prP_inc (by omega) ?_ | refine prP_add ⟨by omega, by omega⟩ ?_ | refine prP_sub ⟨by omega, by omega⟩ ?_ | refine prP_addw ?_ | refine prP_subw ?_ | refine prP_rem (by omega) (by omega) ?_ | refine prP_quo (by omega) ⟨by omega, by omega⟩ (by omega) ?_ | refine prP_eqSd ?_ | refine prP_neSd ?_ | refine prP_catS (by first | omega | (simp only [ByteArray.size_append]; omega)) ?_ | refine prP_eqB ?_ | refine prP_neB ?_ | refine ixW_iv (by omega) ?_ | refine ixW_c (by omega) (by omega) ?_ | refine ldI (by omega) ?_ | refine ldS (by omega) ?_ | refine ldg_ob (by omega) ?_ | refine ldg_wk (by omega) ?_ | refine ldg_po (by omega) ?_ | refine ldg_an (by omega) ?_ | refine ldg_nd (by omega) ?_ | refine ldc_ob (by omega) (by decide) rfl ?_ | refine ldc_ob0 (by omega) rfl ?_ | refine ldc_wk (by omega) (by decide) rfl ?_ | refine ldc_wk0 (by omega) rfl ?_ | refine ldc_po (by omega) (by decide) rfl ?_ | refine ldc_po0 (by omega) rfl ?_ | refine ldc_an (by omega) (by decide) rfl ?_ | refine ldc_an0 (by omega) rfl ?_ | refine ldc_nd (by omega) (by decide) rfl ?_ | refine ldc_nd0 (by omega) rfl ?_ | refine ldf_ob (by omega) (by omega) ?_ | refine ldl_ob (by omega) ?_ | refine ldf_nd (by omega) (by omega) ?_ | refine ldl_nd (by omega) ?_ | refine ldf_an (by omega) (by omega) ?_ | refine ldl_an (by omega) ?_ | refine ldg_tR (by omega) rfl rfl ?_ | refine ldc_tI (by omega) ?_ | refine ldc_tS (by omega) ?_ | refine ldc_tR (by omega) (by decide) rfl ?_ | refine ldc_tR0 (by omega) rfl ?_ | refine apW_p (by first | exact flat_tI _ | exact flat_tS _ | exact flat_tW _ | exact flat_tP _ | rfl) (by omega) ?_ | refine apW_n (by omega) ?_ | refine cndP_d (fun _ => ?_) (fun _ => ?_) | refine pk_sd rfl rfl (fun _ => ?_) (fun _ => ?_) | refine pk_sb rfl rfl (fun _ => ?_) (fun _ => ?_) | refine gP_dt (fun _ => ?_) (fun _ => ?_) | refine gP_df (fun _ => ?_) (fun _ => ?_) | refine cndP_i (fun _ => ?_) (fun _ => ?_) | refine gP_ct (fun _ => ?_) (fun _ => ?_) | refine gP_cf (fun _ => ?_) (fun _ => ?_) | refine prP_not ?_ | simp only [cnt_tO, cnt_tW, cnt_tP, cnt_tA, cnt_tN, cnt_tI, cnt_tS, cnt1_1, cnt1_0, cnt2_1, cnt3_1, cnt5_1, cnt6_1, cnt8_1, nx_0, nx_1, nx_2, nx_3, nx_4, nx_5, nx_6, nxc_0, nxc_1, nxc_2, nxc_3, nxc_4, nxc_5])
      rename_i q1 q2 q3
      have : readE n l s = ⟨⟨Kd, A, B, Cc, nm⟩, ⟨(rv (dr s a2)).1, Vv, (sums A F).1⟩, (show1 n l ⟨Kd, A, B, Cc, nm⟩ ⟨(rv (dr s a2)).1, Vv, (sums A F).1⟩).2.1, (show1 n l ⟨Kd, A, B, Cc, nm⟩ ⟨(rv (dr s a2)).1, Vv, (sums A F).1⟩).2.2, true⟩ := by
        rw [readE, hpe (by omega)]
        simp only
        have q2' := Decidable.not_not.1 q2
        rw [if_pos ⟨fun hh => q3 (q2'.symm.trans hh), q2'⟩]
      rw [this] at h; exact h
  refine spec_l10Ints_c (n := m) hs (by omega) (by omega) (fun F a6 hF _ g6 hFl => ?_) fun F hF hFl => ?_
  · exact rest F a6 hFl (fun hh => by omega) fun _ => by rw [hX, hF]; rfl
  · exact rest F (-1) hFl (fun _ => by rw [hX, hF]; rfl) fun hh => by omega
end Go.Proofs.Ytnhicpkhkaihoaa.P
