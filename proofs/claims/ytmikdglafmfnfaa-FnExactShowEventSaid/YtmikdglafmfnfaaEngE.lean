/- The engine's truth, fifth part: the operations on memory. -/
import Derived.Test.YtmikdglafmfnfaaEngD
namespace Go.Proofs.Ytmikdglafmfnfaa.Eng
open Go Go.RowKit
set_option linter.unusedVariables false
set_option linter.unusedSimpArgs false
theorem reps_succ (n : Nat) (z : List Value) : reps (n + 1) z = z ++ reps n z := by simp [reps, List.replicate_succ]
theorem reps_length (n : Nat) (z : List Value) : (reps n z).length = n * z.length := by
  induction n with
  | zero => simp [reps]
  | succ n ih => rw [reps_succ, List.length_append, ih, Nat.add_mul]; omega
theorem reps_get (z : List Value) : ∀ (n i : Nat), (reps n z)[i]? = if i < n * z.length then z[i % z.length]? else none
  | 0, i => by simp [reps]
  | n + 1, i => by
    rw [reps_succ]
    by_cases h : i < z.length
    · rw [List.getElem?_append_left h, if_pos (by rw [Nat.add_mul]; omega), Nat.mod_eq_of_lt h]
    · have h' : z.length ≤ i := by omega
      rw [List.getElem?_append_right h', reps_get z n, ← Nat.mod_eq_sub_mod h']
      have : (i - z.length < n * z.length) ↔ (i < (n + 1) * z.length) := by rw [Nat.add_mul]; omega
      by_cases h2 : i < (n + 1) * z.length
      · rw [if_pos h2, if_pos (this.2 h2)]
      · rw [if_neg h2, if_neg (fun hh => h2 (this.1 hh))]
theorem reps_made {R : Value → Value → Prop} (n : Nat) (z : Array Value) (h : All2 R z.toList z.toList) : All2 R (reps n z.toList) (madeCells z (n * z.size)).toList := by
  refine All2_of (by rw [reps_length]; simp [madeCells]) fun i x y hx hy => ?_
  rw [reps_get] at hx
  split at hx
  · rename_i hi
    simp only [Array.length_toList] at hi hx
    have hpos : 0 < z.size := Nat.pos_of_ne_zero fun h0 => by rw [h0] at hi; simp at hi
    have hm : i % z.size < z.size := Nat.mod_lt _ hpos
    have hy' : y = z[i % z.size] := by
      simp [madeCells, hi, getElem!_pos z (i % z.size) hm] at hy
      exact hy.symm
    obtain ⟨w, hw, hr⟩ := All2_get _ x h hx
    have : w = y := by
      rw [hy']
      simp [hm] at hw
      exact hw.symm
    rw [← this]; exact hr
  · cases hx
section
variable {P : Program} {ρ : Rho} {env : Env} {a : Act} {s s' : St} {W : World} {B0 : Nat}
theorem aggT_info {t : TypeId} {ag : Bool} (h : aggT P t = some ag) : ∃ d, P.underlying t = some d ∧ isAggD d = ag := by
  unfold aggT at h
  cases hd : P.underlying t with
  | none => simp [hd] at h
  | some d => simp [hd] at h; exact ⟨d, rfl, h⟩
theorem run_isAgg {t : TypeId} {d : TypeDesc} (h : P.underlying t = some d) (W : World) : (isAgg t).run P W = .ok (isAggD d) W := by
  unfold isAgg
  cases d <;> simp [underlying, h, isAggD]
theorem run_ld {t : TypeId} {ag : Bool} {sz : Nat} {x v u : Value} (hs : szT P t = some sz) (ha : aggT P t = some ag) (hg : ld ag sz x s = some (v, s')) (hx : VR ρ x u)
    (hcon : ∀ h p ob, handle x = some h → ρ h = some p → s.get h = some ob → Con B0 ρ W p ob) : s' = s ∧ ∃ w, VR ρ v w ∧ (Instr.loadAt t u).run P W = .ok w W := by
  obtain ⟨i, hi, hsz⟩ := szT_info hs
  obtain ⟨d, hd, hag⟩ := aggT_info ha
  unfold ld at hg
  split at hg
  · rename_i h off
    obtain ⟨p, hp, rfl⟩ := VR_pt hx
    simp only [Option.bind_eq_some_iff] at hg
    obtain ⟨ob, hob, cs, hcs, hg⟩ := hg
    obtain ⟨us, h1, h2, h3⟩ := con_read (hcon h p ob rfl hp hob) hcs
    cases ag with
    | true =>
      simp only [Option.some.injEq, Prod.mk.injEq] at hg
      obtain ⟨rfl, rfl⟩ := hg
      refine ⟨rfl, .agg us.toArray, ⟨us.toArray, rfl, by simpa using h1⟩, ?_⟩
      have hl := run_loadCells_list (P := P) W ⟨p.b, p.o + off, none⟩ us h3
      simp only [Instr.loadAt, Instr.sureAddr, loadVar, Sem.run_bind, Sem.run_pure, Result.andThen_ok, run_isAgg hd, hag, if_true, sizeOf, typeInfo, run_program, hi, hsz, Sem.run_map]
      rw [← h2, hl]
      rfl
    | false =>
      simp only at hg
      split at hg
      · rename_i c
        simp only [Option.some.injEq, Prod.mk.injEq] at hg
        obtain ⟨rfl, rfl⟩ := hg
        obtain ⟨u, rfl⟩ : ∃ u, us = [u] := by
          cases us with
          | nil => exact h1.elim
          | cons u r => cases r with
            | nil => exact ⟨u, rfl⟩
            | cons _ _ => exact h1.2.elim
        refine ⟨rfl, u, CR_VR h1.1, ?_⟩
        have hl := h3 0 u rfl
        simp only [Addr.add, if_true] at hl
        simp [Instr.loadAt, Instr.sureAddr, loadVar, run_isAgg hd, hag, hl]
      · cases hg
  · cases hg
theorem slice_read {sz : Nat} {x u : Value} {cs : List Value} (hg : s.got sz x = some cs) (hx : VR ρ x u)
    (hcon : ∀ h p ob, handle x = some h → ρ h = some p → s.get h = some ob → Con B0 ρ W p ob) :
    ∃ b m c us, u = .slice b m c ∧ us.length = m * sz ∧ All2 (CR ρ) cs us ∧ (∀ q, b = some q → m = 0 ∨ ∀ j w, us[j]? = some w → W.cell? (q.add j) = some w) ∧ (b = none → m = 0) := by
  unfold St.got at hg
  split at hg
  · rename_i n e
    cases hg
    obtain ⟨rfl, rfl⟩ := hx
    exact ⟨none, 0, 0, [], rfl, by simp, trivial, fun q _ => .inl rfl, fun _ => rfl⟩
  · rename_i h off n e
    obtain ⟨p, b, c, hp, rfl, hnc, hb, _⟩ := hx
    split at hg
    · rename_i hn
      cases hg
      subst hn
      exact ⟨b, 0, c, [], rfl, by simp, trivial, fun q _ => .inl rfl, fun _ => rfl⟩
    · rename_i hn
      split at hg
      · simp only [Option.bind_eq_some_iff] at hg
        obtain ⟨ob, hob, hcs⟩ := hg
        obtain ⟨us, h1, h2, h3⟩ := con_read (hcon h p ob rfl hp hob) hcs
        obtain rfl := hb hn
        exact ⟨_, n, c, us, rfl, h2, h1, fun q hq => .inr (by cases hq; exact h3), fun hh => by cases hh⟩
      · cases hg
  · cases hg
theorem ints_of : ∀ {cs : List Value}, cs.all isByte = true → ∃ ns : List Int, cs = ns.map (Value.int .u8)
  | [], _ => ⟨[], rfl⟩
  | c :: cs, h => by
    simp only [List.all_cons, Bool.and_eq_true] at h
    obtain ⟨ns, hns⟩ := ints_of (cs := cs) h.2
    have h1 := h.1
    unfold isByte at h1
    split at h1
    · rename_i n; exact ⟨n :: ns, by simp [hns]⟩
    · cases h1
theorem run_b2s {src dst e : TypeId} {x v u : Value} (h1 : P.underlying src = some (.slice e)) (h2 : P.underlying dst = some .string) (h3 : P.underlying e = some (.int .u8)) (hg : b2s x s = some (v, s')) (hx : VR ρ x u)
    (hcon : ∀ h p ob, handle x = some h → ρ h = some p → s.get h = some ob → Con B0 ρ W p ob) : s' = s ∧ ∃ w, VR ρ v w ∧ (convert src dst u).run P W = .ok w W := by
  unfold b2s at hg
  simp only [Option.bind_eq_some_iff] at hg
  obtain ⟨cs, hcs, hg⟩ := hg
  split at hg
  · rename_i hall
    simp only [Option.some.injEq, Prod.mk.injEq] at hg
    obtain ⟨rfl, rfl⟩ := hg
    obtain ⟨b, m, c, us, rfl, hl, hr, hread, hnone⟩ := slice_read hcs hx hcon
    obtain ⟨ns, rfl⟩ := ints_of hall
    have hus : us = ns.map (Value.int .u8) := plain_All2 (by simp [plain]) hr
    subst hus
    refine ⟨rfl, _, rfl, ?_⟩
    rw [run_convert_bytes_string W src dst e b m c h1 h3 h2]
    have hfold : ∀ (l : List Int) (z : ByteArray), (l.map (Value.int .u8)).foldl pushB z = l.foldl (fun r n => r.push (UInt8.ofNat n.toNat)) z := by
      intro l; induction l with
      | nil => intro z; rfl
      | cons q r ih => intro z; simp only [List.map_cons, List.foldl_cons]; exact ih _
    rw [hfold]
    simp only [Nat.mul_one] at hl
    cases b with
    | none =>
      have hm := hnone rfl
      subst hm
      have : ns = [] := by simpa using hl
      subst this
      rfl
    | some q =>
      have hload : (loadCells q m).run P W = .ok (ns.map (Value.int .u8)).toArray W := by
        rcases hread q rfl with hm | hread
        · subst hm
          have : ns = [] := by simpa using hl
          subst this
          rfl
        · rw [← hl]; exact run_loadCells_list (P := P) W q _ hread
      exact run_bytesToString W q m c ns hload
  · cases hg
theorem rd_sound {o : Oper} {w v : Value} {g : M1} (hE : VRE ρ env a) (h : opOf P env o = some (.rd w g)) (hg : g s = some (v, s'))
    (hcon : ∀ h p ob, handle w = some h → ρ h = some p → s.get h = some ob → Con B0 ρ W p ob) : s' = s ∧ ∃ u, VR ρ v u ∧ (execOp a.eval o).run P W = .ok (.value u) W := by
  obtain ⟨dst, op, type, pos, after, guard⟩ := o
  cases op
  case load t x =>
    simp only [opOf, Option.bind_eq_some_iff, Option.map_eq_some_iff, Stp.rd.injEq] at h
    obtain ⟨sz, hs, ag, ha, rfl, rfl⟩ := h
    obtain ⟨h1, u, h2, h3⟩ := run_ld hs ha hg (ev_VR hE x) hcon
    exact ⟨h1, u, h2, run_v h3⟩
  case convert src dst' x =>
    simp only [opOf] at h
    split at h
    · cases h
    · rename_i e h1 h2
      split at h
      · rename_i h3
        simp only [Option.some.injEq, Stp.rd.injEq] at h
        obtain ⟨rfl, rfl⟩ := h
        obtain ⟨k1, u, k2, k3⟩ := run_b2s h1 h2 h3 hg (ev_VR hE x) hcon
        exact ⟨k1, u, k2, run_v k3⟩
      · cases h
    · cases h
  case slice t x lo hi mx => cases mx <;> simp only [opOf] at h <;> (repeat' (split at h)) <;> simp [Option.map_eq_some_iff] at h
  all_goals (simp only [opOf] at h; (repeat' (split at h)) <;> simp [Option.bind_eq_some_iff, Option.map_eq_some_iff] at h <;> (try (obtain ⟨_, _, h⟩ := h; (repeat' (split at h)) <;> simp at h)))
theorem run_bs {t e : TypeId} {z : List Value} {len sz by' : Nat} {parts : Array (Nat × Operand)} {v : Value} (hE : VRE ρ env a) (ht : P.underlying t = some (.slice e)) (hz : zeroT P e = some (z, sz, by')) (hpos : 0 < sz) (hlim : len * sz ≤ 2 ^ 24)
    (hg : bs sz len z (partsL env sz parts.toList) s = some (v, s')) : ∃ cells cs, s' = s.push ⟨cells, true⟩ ∧ All2 (CR ρ) cells (Array.toList cs) ∧ handle v = some s.n ∧
      ∀ W, ∃ u, (Instr.buildSlice t len (parts.map fun (i, x) => (i, a.eval x))).run P W = .ok u (W.alloc (.cells cs e)) ∧ ∀ ρ', ρ' s.n = some ⟨W.heap.size, 0, cs.size, true⟩ → VR ρ' v u := by
  obtain ⟨i, zv, hi, hzv, hzc, hsz, _, hlen, hself⟩ := zeroT_info hz
  simp only [bs, Option.map_eq_some_iff, Prod.mk.injEq] at hg
  obtain ⟨cells, hcells, rfl, rfl⟩ := hg
  have hzs : zv.cells.size = sz := by rw [← hlen, ← hzc]; simp
  have hmade : All2 (CR ρ) (reps len z) (madeCells zv.cells (len * sz)).toList := by
    rw [← hzc, ← hzs]; exact reps_made len zv.cells (by rw [hzc]; exact hself ρ)
  obtain ⟨B, hB, hr⟩ := fill_rel (ρ := ρ) _ _ (reps len z) cells (madeCells zv.cells (len * sz)) (partsL_rel hE sz parts.toList) hmade hcells
  have hBs : B.size = len * sz := by
    have h1 := All2_length hr
    have h2 : cells.length = (reps len z).length := by
      have : ∀ (ps : List (Nat × Nat × Value)) (cs cs' : List Value), fillE cs ps = some cs' → cs'.length = cs.length := by
        intro ps
        induction ps with
        | nil => intro cs cs' h; simp [fillE] at h; rw [h]
        | cons q r ih =>
          obtain ⟨o, z, v⟩ := q
          intro cs cs' h
          simp only [fillE] at h
          split at h
          · rename_i hc
            simp only [Bool.and_eq_true, beq_iff_eq, decide_eq_true_eq] at hc
            rw [ih _ _ h, splice_length _ _ _ (by omega)]
          · cases h
      exact this _ _ _ hcells
    rw [reps_length, hlen] at h2
    simp only [Array.length_toList] at h1
    omega
  refine ⟨cells, B, rfl, hr, rfl, fun W => ?_⟩
  · refine ⟨.slice (some ⟨W.heap.size, 0, none⟩) len len, ?_, fun ρ' hp => ?_⟩
    · by_cases h0 : len * sz = 0
      · have hl0 : len = 0 := by
          rcases Nat.mul_eq_zero.1 h0 with h | h
          · exact h
          · omega
        subst hl0
        have hB' : Instr.fill (fun i => some (i * sz, sz)) #[] (parts.toList.map fun (i, x) => (i, a.eval x)) = some B := by
          simpa [madeCells, Array.range_zero'] using hB
        simp only [Instr.buildSlice, underlying, Sem.run_bind, run_program, Result.andThen_ok, ht, Sem.run_pure, sizeOf, typeInfo, hi, hsz, Nat.zero_mul, Nat.not_lt_zero, if_false, if_true, Array.toList_map, newRow, run_newObj]
        simp [Array.range_zero', hB']
      · have hlim' : ¬ (len * sz > 2 ^ 24) := by omega
        simp only [Instr.buildSlice, underlying, zeroValue, Sem.run_bind, run_program, Result.andThen_ok, ht, Sem.run_pure, sizeOf, typeInfo, hi, hsz, hlim', h0, if_false, hzv, Array.toList_map]
        have hB' := hB
        simp only [madeCells] at hB'
        simp [hB', newRow]
    · refine ⟨_, _, _, hp, rfl, Nat.le_refl _, fun _ => by simp, fun _ => ⟨by simp [hBs], 0, rfl, Nat.zero_le _, fun _ => rfl⟩⟩
theorem run_mk {t e : TypeId} {z : List Value} {sz by' : Nat} {x y ux uy v : Value} (ht : P.underlying t = some (.slice e)) (hz : zeroT P e = some (z, sz, by')) (hby : 0 < by')
    (hg : mk by' sz z x y s = some (v, s')) (hx : VR ρ x ux) (hy : VR ρ y uy) : ∃ cells cs, s' = s.push ⟨cells, true⟩ ∧ All2 (CR ρ) cells (Array.toList cs) ∧ handle v = some s.n ∧
      ∀ W, ∃ u, (Instr.makeSlice t ux uy).run P W = .ok u (W.alloc (.cells cs e)) ∧ ∀ ρ', ρ' s.n = some ⟨W.heap.size, 0, cs.size, true⟩ → VR ρ' v u := by
  obtain ⟨i, zv, hi, hzv, hzc, hsz, hb, hlen, hself⟩ := zeroT_info hz
  unfold mk at hg
  split at hg
  · rename_i n c
    split at hg
    · rename_i hc
      obtain ⟨h0, rfl, hlim⟩ := hc
      simp only [Option.some.injEq, Prod.mk.injEq] at hg
      obtain ⟨rfl, rfl⟩ := hg
      rw [VR_int hx, VR_int hy]
      have hzs : zv.cells.size = sz := by rw [← hlen, ← hzc]; simp
      refine ⟨reps c.toNat z, madeCells zv.cells (c.toNat * sz), rfl, ?_, rfl, fun W => ⟨.slice (some ⟨W.heap.size, 0, none⟩) c.toNat c.toNat, ?_, fun ρ' hp => ?_⟩⟩
      · rw [← hzc, ← hzs]; exact reps_made _ zv.cells (by rw [hzc]; exact hself ρ)
      · have hcb : c ≤ 9223372036854775807 := by
          have : (1 : Int) * c ≤ by' * c := Int.mul_le_mul_of_nonneg_right (by omega) h0
          omega
        rw [← hsz]
        exact run_make (P := P) W t e i zv ht hi hzv .i64 .i64 c c h0 (Int.le_refl _) (by rw [hb]; omega) hcb
      · refine ⟨_, _, _, hp, rfl, Nat.le_refl _, fun _ => by simp, fun _ => ⟨by simp [madeCells], 0, rfl, Nat.zero_le _, fun _ => rfl⟩⟩
    · cases hg
  · cases hg
theorem al_sound {o : Oper} {v : Value} {g : M1} (hE : VRE ρ env a) (h : opOf P env o = some (.al g)) (hg : g s = some (v, s')) :
    ∃ cells cs e, s' = s.push ⟨cells, true⟩ ∧ All2 (CR ρ) cells (Array.toList cs) ∧ handle v = some s.n ∧
      ∀ W, ∃ u, (execOp a.eval o).run P W = .ok (.value u) (W.alloc (.cells cs e)) ∧ ∀ ρ', ρ' s.n = some ⟨W.heap.size, 0, cs.size, true⟩ → VR ρ' v u := by
  obtain ⟨dst, op, type, pos, after, guard⟩ := o
  cases op
  case alloc t =>
    simp only [opOf, Option.map_eq_some_iff, Stp.al.injEq] at h
    obtain ⟨⟨z, sz, b⟩, hz, rfl⟩ := h
    obtain ⟨i, zv, hi, hzv, hzc, hsz, hb, hlen, hself⟩ := zeroT_info hz
    simp only [al, Option.some.injEq, Prod.mk.injEq] at hg
    obtain ⟨rfl, rfl⟩ := hg
    refine ⟨z, zv.cells, t, rfl, by rw [hzc]; exact hself ρ, rfl, fun W => ⟨.pointer (some ⟨W.heap.size, 0, none⟩), ?_, fun ρ' hp => ⟨_, hp, by simp⟩⟩⟩
    exact run_v (by simp [Instr.alloc, zeroValue, typeInfo, hi, hzv, newVar, newRow])
  case box t x =>
    simp only [opOf, Option.some.injEq, Stp.al.injEq] at h
    subst h
    unfold bx at hg
    split at hg
    · rename_i hv
      simp only [Option.some.injEq, Prod.mk.injEq] at hg
      obtain ⟨rfl, rfl⟩ := hg
      refine ⟨_, (a.eval x).cells, t, rfl, VR_cells (ev_VR hE x) hv, rfl, fun W => ⟨.pointer (some ⟨W.heap.size, 0, none⟩), ?_, fun ρ' hp => ⟨_, hp, by simp⟩⟩⟩
      exact run_v (by simp [Instr.box, newVar, newRow])
    · cases hg
  case buildSlice t len parts =>
    simp only [opOf] at h
    split at h
    · rename_i e ht
      simp only [Option.bind_eq_some_iff] at h
      obtain ⟨⟨z, sz, b⟩, hz, h⟩ := h
      split at h
      · rename_i hc
        simp only [Bool.and_eq_true, decide_eq_true_eq] at hc
        simp only [Option.some.injEq, Stp.al.injEq] at h
        subst h
        obtain ⟨cells, cs, h1, h2, h3, h4⟩ := run_bs hE ht hz hc.1 hc.2 hg
        exact ⟨cells, cs, e, h1, h2, h3, fun W => by obtain ⟨u, hu, hr⟩ := h4 W; exact ⟨u, run_v hu, hr⟩⟩
      · cases h
    · cases h
  case makeSlice t x y =>
    simp only [opOf] at h
    split at h
    · rename_i e ht
      simp only [Option.bind_eq_some_iff] at h
      obtain ⟨⟨z, sz, b⟩, hz, h⟩ := h
      split at h
      · rename_i hc
        simp only [Bool.and_eq_true, decide_eq_true_eq] at hc
        simp only [Option.some.injEq, Stp.al.injEq] at h
        subst h
        obtain ⟨cells, cs, h1, h2, h3, h4⟩ := run_mk ht hz hc.2 hg (ev_VR hE x) (ev_VR hE y)
        exact ⟨cells, cs, e, h1, h2, h3, fun W => by obtain ⟨u, hu, hr⟩ := h4 W; exact ⟨u, run_v hu, hr⟩⟩
      · cases h
    · cases h
  case slice t x lo hi mx => cases mx <;> simp only [opOf] at h <;> (repeat' (split at h)) <;> simp [Option.map_eq_some_iff] at h
  all_goals (simp only [opOf] at h; (repeat' (split at h)) <;> simp [Option.bind_eq_some_iff, Option.map_eq_some_iff] at h <;> (try (obtain ⟨_, _, h⟩ := h; (repeat' (split at h)) <;> simp at h)))
end
end Go.Proofs.Ytmikdglafmfnfaa.Eng
