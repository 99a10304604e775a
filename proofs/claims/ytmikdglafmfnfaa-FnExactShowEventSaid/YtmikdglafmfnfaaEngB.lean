/- The engine's truth, second part: the operations on values alone. -/
import Derived.Test.YtmikdglafmfnfaaEngA
namespace Go.Proofs.Ytmikdglafmfnfaa.Eng
open Go Go.RowKit
set_option linter.unusedVariables false
set_option linter.unusedSimpArgs false
section
variable {P : Program} {ρ : Rho} {env : Env} {a : Act}
theorem run_v {s : Sem Value} {u : Value} {W W' : World} (h : s.run P W = .ok u W') : ((do pure (Next.value (← s))) : Sem Next).run P W = .ok (.value u) W' := by
  simp [h]
theorem szT_info {t : TypeId} {sz : Nat} (h : szT P t = some sz) : ∃ i, P.info? t = some i ∧ i.size = sz := by
  unfold szT at h
  cases hi : P.info? t with
  | none => simp [hi] at h
  | some i => simp [hi] at h; exact ⟨i, rfl, h⟩
theorem run_bnA {op : BinOp} {t : TypeId} {x y : Operand} {p q v u w : Value} (h : bnA P op t p q = some v) (ha : VR ρ p u) (hb : VR ρ q w) (W : World) :
    (do eqGuard op t x y u w; binOp op t u w : Sem Value).run P W = .ok v W ∧ VR ρ v v := by
  unfold bnA at h
  split at h
  · rename_i xs ys
    split at h
    · rename_i hp
      split at h
      · rename_i b hb'
        simp only [Bool.and_eq_true] at hp
        obtain ⟨ds, rfl, hd⟩ := VR_agg ha
        obtain ⟨es, rfl, he⟩ := VR_agg hb
        have e1 := plain_All2 (by simpa [Array.all_toList] using hp.1) hd
        have e2 := plain_All2 (by simpa [Array.all_toList] using hp.2) he
        have e1' : ds = xs := by cases ds; cases xs; simp_all
        have e2' : es = ys := by cases es; cases ys; simp_all
        subst e1'; subst e2'
        cases h
        exact ⟨pureRun_run hb' W, rfl⟩
      · cases h
    · cases h
  · cases h
theorem run_un {op : UnOp} {p v u : Value} (h : un op p = some v) (hu : VR ρ p u) (W : World) : (Op.unary op u).run P W = .ok v W ∧ VR ρ v v := by
  unfold un at h
  split at h
  · rw [VR_bool hu]; cases op <;> simp at h; subst h; exact ⟨rfl, rfl⟩
  · rename_i k n
    rw [VR_int hu]; cases op <;> simp at h <;> subst h <;> exact ⟨by simp [Op.unary, Op.intArith, Op.intBits], rfl⟩
  · cases h
theorem run_pk {c x y v uc ux uy : Value} (h : pk c x y = some v) (hc : VR ρ c uc) (hx : VR ρ x ux) (hy : VR ρ y uy) :
    ∃ u, VR ρ v u ∧ ∀ W, ((do pure (Next.value (if ← asBool uc then ux else uy))) : Sem Next).run P W = .ok (.value u) W := by
  unfold pk at h
  split at h
  · cases h; rw [VR_bool hc]; exact ⟨ux, hx, fun _ => rfl⟩
  · cases h; rw [VR_bool hc]; exact ⟨uy, hy, fun _ => rfl⟩
  · cases h
theorem run_ex {x v u : Value} {i : Nat} (h : ex x i = some v) (hx : VR ρ x u) : ∃ w, VR ρ v w ∧ ∀ W, (Instr.extract u i).run P W = .ok w W := by
  unfold ex at h
  split at h
  · rename_i vs
    obtain ⟨ds, rfl, hd⟩ := VR_tuple hx
    have h' : vs.toList[i]? = some v := by simpa using h
    obtain ⟨w, hw, hr⟩ := All2_get i v hd h'
    have hw' : ds[i]? = some w := by simpa using hw
    exact ⟨w, V2_VR hr, fun W => by simp [Instr.extract, hw']⟩
  · cases h
theorem run_lnS {ty t : TypeId} {x v u : Value} (ht : P.underlying t = some .string) (h : lnS x = some v) (hx : VR ρ x u) (W : World) : (Builtin.len_ #[t] ty #[u]).run P W = .ok v W ∧ VR ρ v v := by
  unfold lnS at h
  split at h
  · cases h; rw [VR_string hx]; exact ⟨by simp [Builtin.len_, underlying, ht, goInt], rfl⟩
  · cases h
theorem run_lnL {ty t e : TypeId} {x v u : Value} (ht : P.underlying t = some (.slice e)) (h : lnL x = some v) (hx : VR ρ x u) (W : World) : (Builtin.len_ #[t] ty #[u]).run P W = .ok v W ∧ VR ρ v v := by
  unfold lnL at h
  split at h
  · rename_i p n c
    cases h
    have : ∃ b c', u = .slice b n c' := by
      rcases p with _ | ⟨b, o, _ | s⟩
      · obtain ⟨rfl, rfl⟩ := hx; exact ⟨none, 0, rfl⟩
      · obtain ⟨p, b, c', _, rfl, _⟩ := hx; exact ⟨b, c', rfl⟩
      · exact hx.elim
    obtain ⟨b, c', rfl⟩ := this
    exact ⟨by simp [Builtin.len_, underlying, ht, goInt], rfl⟩
  · cases h
theorem run_mn {ty : TypeId} {ts : Array TypeId} {x y v u w : Value} (h : mn x y = some v) (hx : VR ρ x u) (hy : VR ρ y w) (W : World) : (Builtin.min_ ts ty #[u, w]).run P W = .ok v W ∧ VR ρ v v := by
  unfold mn at h
  split at h
  · cases h; rw [VR_int hx, VR_int hy]; exact ⟨by simp [Builtin.min_, Builtin.min2], rfl⟩
  · cases h
theorem run_fa {t : TypeId} {fields : Array Field} {f : Field} {i sz : Nat} {x v u : Value} (ht : P.underlying t = some (.struct fields)) (hf : fields[i]? = some f) (hs : szT P f.type = some sz) (hz : ¬ sz = 0)
    (h : fa f.offset x = some v) (hx : VR ρ x u) : ∃ w, VR ρ v w ∧ ∀ W, (Instr.fieldAt t u i).run P W = .ok w W := by
  obtain ⟨ti, hti, hsz⟩ := szT_info hs
  unfold fa at h
  split at h
  · rename_i b o
    cases h
    obtain ⟨p, hp, rfl⟩ := VR_pt hx
    refine ⟨.pointer (some ⟨p.b, p.o + o + f.offset, none⟩), ⟨p, hp, by rw [Nat.add_assoc]⟩, ?_⟩
    have hz' : ¬ ti.size = 0 := by omega
    intro W
    simp [Instr.fieldAt, underlying, ht, hf, Instr.sureAddr, fieldPlace, sizeOf, typeInfo, hti, hz', Addr.add_lit]
  · cases h
theorem run_ia {t e : TypeId} {sz : Nat} {x i v u w : Value} (ht : P.underlying t = some (.slice e)) (hs : szT P e = some sz) (h : ia sz x i = some v) (hx : VR ρ x u) (hi : VR ρ i w) :
    ∃ z, VR ρ v z ∧ ∀ W, (Instr.indexAt t u w).run P W = .ok z W := by
  obtain ⟨ti, hti, hsz⟩ := szT_info hs
  unfold ia at h
  split at h
  · rename_i b o n c k j
    split at h
    · rename_i hj
      cases h
      rw [VR_int hi]
      obtain ⟨p, ad, c', hp, rfl, _, ha, _⟩ := hx
      obtain rfl := ha (by omega)
      refine ⟨.pointer (some ⟨p.b, p.o + o + j.toNat * sz, none⟩), ⟨p, hp, by rw [Nat.add_assoc]⟩, ?_⟩
      intro W
      simp [Instr.indexAt, asIntOf, underlying, ht, sizeOf, typeInfo, hti, hsz, hj, Addr.add_lit]
    · cases h
  · cases h
theorem run_iaA {t e : TypeId} {n sz : Nat} {x i v u w : Value} (ht : P.underlying t = some (.array n e)) (hs : szT P e = some sz) (h : iaA n sz x i = some v) (hx : VR ρ x u) (hi : VR ρ i w) :
    ∃ z, VR ρ v z ∧ ∀ W, (Instr.indexAt t u w).run P W = .ok z W := by
  obtain ⟨ti, hti, hsz⟩ := szT_info hs
  unfold iaA at h
  split at h
  · rename_i b o k j
    split at h
    · rename_i hj
      cases h
      rw [VR_int hi]
      obtain ⟨p, hp, rfl⟩ := VR_pt hx
      refine ⟨.pointer (some ⟨p.b, p.o + o + j.toNat * sz, none⟩), ⟨p, hp, by rw [Nat.add_assoc]⟩, ?_⟩
      intro W
      simp [Instr.indexAt, asIntOf, underlying, ht, sizeOf, typeInfo, hti, hsz, hj, Addr.add_lit, Instr.sureAddr]
    · cases h
  · cases h
theorem run_ix {t : TypeId} {x i v u w : Value} (ht : P.underlying t = some .string) (h : ix x i = some v) (hx : VR ρ x u) (hi : VR ρ i w) (W : World) :
    (Instr.index t u w).run P W = .ok v W ∧ VR ρ v v := by
  unfold ix at h
  split at h
  · rename_i s k j
    split at h
    · rename_i hj
      rw [VR_int hi, VR_string hx]
      simp only [Option.map_eq_some_iff] at h
      obtain ⟨b, hb, rfl⟩ := h
      exact ⟨by simp [Instr.index, asIntOf, underlying, ht, hj, hb], rfl⟩
    · cases h
  · cases h
theorem run_sliceBound {x : Operand} {d n y : Nat} {code : BoundsCode} (hE : VRE ρ env a) (h : bnd d (some (ev env x)) = some n) (hy : n ≤ y) (W : World) :
    (Instr.sliceBound (a.eval x) y code).run P W = .ok n W := by
  have hv := ev_VR hE x
  unfold bnd at h
  split at h
  · simp_all
  · rename_i k i he
    split at h
    · rename_i hi
      cases h
      rw [Option.some.inj he] at hv
      rw [VR_int hv]
      have : i ≤ (y : Int) := by omega
      simp [Instr.sliceBound, asIntOf, hi, this]
    · cases h
  · cases h
theorem run_sliceBounds {b : Bool} {len cap l h : Nat} {lo hi : Option Operand} (hE : VRE ρ env a) (h1 : bnd len (hi.map (ev env)) = some h) (h2 : bnd 0 (lo.map (ev env)) = some l) (hlh : l ≤ h) (hh : h ≤ cap) (W : World) :
    (Instr.sliceBounds b len cap (lo.map a.eval) (hi.map a.eval) none).run P W = .ok (l, h, cap) W := by
  cases lo with
  | none =>
    simp only [Option.map_none, bnd, Option.some.injEq] at h2
    subst h2
    cases hi with
    | none => simp only [Option.map_none, bnd, Option.some.injEq] at h1; subst h1; simp [Instr.sliceBounds]
    | some y => simp only [Option.map_some] at h1; simp [Instr.sliceBounds, run_sliceBound (P := P) hE h1 hh]
  | some x =>
    simp only [Option.map_some] at h2
    cases hi with
    | none =>
      simp only [Option.map_none, bnd, Option.some.injEq] at h1
      subst h1
      simp [Instr.sliceBounds, run_sliceBound (P := P) hE h2 hlh]
    | some y => simp only [Option.map_some] at h1; simp [Instr.sliceBounds, run_sliceBound (P := P) hE h1 hh, run_sliceBound (P := P) hE h2 hlh]
theorem bind_some2 {α β γ : Type} {x : Option α} {y : Option β} {f : α → β → Option γ} {c : γ} (h : (x.bind fun p => y.bind fun q => f p q) = some c) : ∃ p q, x = some p ∧ y = some q ∧ f p q = some c := by
  cases x with
  | none => cases h
  | some p =>
    cases y with
    | none => cases h
    | some q => exact ⟨p, q, rfl, rfl, h⟩
theorem run_scS {t : TypeId} {x v u : Value} {lo hi : Option Operand} (hE : VRE ρ env a) (ht : P.underlying t = some .string) (h : scS x (lo.map (ev env)) (hi.map (ev env)) = some v) (hx : VR ρ x u) (W : World) :
    (Instr.sliceAt t u (lo.map a.eval) (hi.map a.eval) none).run P W = .ok v W ∧ VR ρ v v := by
  unfold scS at h
  split at h
  · rename_i s
    obtain ⟨n, l, h1, h2, h3⟩ := bind_some2 h
    split at h3
    · rename_i hc
      cases h3
      rw [VR_string hx]
      exact ⟨by simp [Instr.sliceAt, Instr.slice, underlying, ht, run_sliceBounds (P := P) hE h1 h2 hc.1 hc.2], rfl⟩
    · cases h3
  · cases h
theorem run_scL {t e : TypeId} {sz : Nat} {x v u : Value} {lo hi : Option Operand} (hE : VRE ρ env a) (ht : P.underlying t = some (.slice e)) (hs : szT P e = some sz)
    (h : scL sz x (lo.map (ev env)) (hi.map (ev env)) = some v) (hx : VR ρ x u) :
    ∃ z, VR ρ v z ∧ ∀ W, (Instr.sliceAt t u (lo.map a.eval) (hi.map a.eval) none).run P W = .ok z W := by
  obtain ⟨ti, hti, hsz⟩ := szT_info hs
  unfold scL at h
  split at h
  · rename_i b o n e'
    obtain ⟨hh, l, h1, h2, h3⟩ := bind_some2 h
    split at h3
    · rename_i hc
      cases h3
      obtain ⟨p, ad, c', hp, rfl, hcap, ha, hown⟩ := hx
      refine ⟨_, ?_, fun W => by simp only [Instr.sliceAt, Instr.slice, Sem.run_bind, underlying, run_program, Result.andThen_ok, ht, Sem.run_pure, run_sliceBounds (P := P) hE h1 h2 hc.1 (Nat.le_trans hc.2.1 hcap), sizeOf, typeInfo, hti, hsz]; rfl⟩
      refine ⟨p, _, _, hp, rfl, by omega, fun hne => ?_, fun ho => ?_⟩
      · have : n ≠ 0 := by omega
        obtain rfl := ha this
        split
        · omega
        · simp [Addr.add_lit, Nat.add_assoc]
      · obtain ⟨q2, o', rfl, q3, q4⟩ := hown ho
        have e0 : e' = sz := hc.2.2
        subst e0
        have hl : l ≤ c' := by omega
        refine ⟨?_, ?_⟩
        · rw [← q2, Nat.sub_mul]
          have := Nat.mul_le_mul_right e' hl
          omega
        · split
          · rename_i hcl
            exact ⟨o', rfl, q3, fun hne => absurd (by omega) hne⟩
          · rename_i hcl
            have hc0 : c' ≠ 0 := by omega
            obtain rfl := q4 hc0
            refine ⟨p.o + (o + l * e'), by simp [Addr.add_lit, Nat.add_assoc], ?_, fun _ => rfl⟩
            have := Nat.mul_le_mul_right e' hl
            omega
    · cases h3
  · rename_i n e'
    obtain ⟨hh, l, h1, h2, h3⟩ := bind_some2 h
    split at h3
    · rename_i hc
      cases h3
      obtain ⟨rfl, rfl⟩ := hx
      obtain ⟨rfl, rfl⟩ := hc
      exact ⟨.slice none 0 0, ⟨rfl, rfl⟩, fun W => by simp only [Instr.sliceAt, Instr.slice, Sem.run_bind, underlying, run_program, Result.andThen_ok, ht, Sem.run_pure, run_sliceBounds (P := P) hE h1 h2 (Nat.le_refl _) (Nat.le_refl _), sizeOf, typeInfo, hti, hsz]; rfl⟩
    · cases h3
  · cases h
end
end Go.Proofs.Ytmikdglafmfnfaa.Eng
