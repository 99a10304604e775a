/- The engine's truth, sixth part: the writers. -/
import Derived.Test.YtmikdglafmfnfaaEngE
namespace Go.Proofs.Ytmikdglafmfnfaa.Eng
open Go Go.RowKit
set_option linter.unusedVariables false
set_option linter.unusedSimpArgs false
section
variable {C : Ctx} {ρ : Rho} {env : Env} {a : Act} {s s' : St} {W : World}
theorem splice_toArray (cs : Array Value) (o : Nat) (us : List Value) : (cs.toList.take o ++ us ++ cs.toList.drop (o + us.length)).toArray = (splice cs.toList o us).toArray := rfl
theorem run_storeVar {P : Program} {t : TypeId} {i : TypeInfo} {b o : Nat} {u : Value} {cs : Array Value} {e : TypeId} (hi : P.info? t = some i) (hs : u.cells.size = i.size) (h1 : ∀ x ∈ u.cells.toList, x.oneCell' = true)
    (hW : W.heap[b]? = some (.cells cs e (0, 0))) (hl : o + u.cells.size ≤ cs.size) : (Instr.storeAt t (.pointer (some ⟨b, o, none⟩)) u).run P W = .ok () (W.setRow b (splice cs.toList o u.cells.toList).toArray) := by
  have hst := run_storeCells_at P b o e u.cells.toList 0 cs W hW (by simpa using hl) h1
  simp only [Nat.add_zero, splice_toArray] at hst
  simp [Instr.storeAt, Instr.sureAddr, storeVar, sizeOf, typeInfo, hi, hs, hst]
theorem All2_one {ρ : Rho} : ∀ {l m : List Value}, All2 (CR ρ) l m → ∀ x ∈ m, x.oneCell' = true
  | [], [], _ => by simp
  | x :: xs, y :: ys, h => by
    intro z hz
    rcases List.mem_cons.1 hz with rfl | hz
    · exact CR_oneCell h.1
    · exact All2_one h.2 z hz
  | [], _ :: _, h => h.elim
  | _ :: _, [], h => h.elim
theorem sto_sound {t : TypeId} {sz : Nat} {x y v ux uy : Value} (hR : Rel C ρ s W) (hs : szT C.P t = some sz) (hg : sto sz x y s = some (v, s')) (hx : VR ρ x ux) (hy : VR ρ y uy) :
    v = undef ∧ ∃ W', (Instr.storeAt t ux uy).run C.P W = .ok () W' ∧ Rel C ρ s' W' ∧ Way ρ s W ρ s' W' := by
  obtain ⟨i, hi, hsz⟩ := szT_info hs
  unfold sto at hg
  split at hg
  · rename_i h off
    obtain ⟨p, hp, rfl⟩ := VR_pt hx
    simp only [Option.bind_eq_some_iff] at hg
    obtain ⟨ob, hob, hg⟩ := hg
    split at hg
    · rename_i hc
      simp only [Bool.and_eq_true, beq_iff_eq, decide_eq_true_eq] at hc
      obtain ⟨⟨⟨ho, hv⟩, hl⟩, hle⟩ := hc
      simp only [Option.some.injEq, Prod.mk.injEq] at hg
      obtain ⟨rfl, rfl⟩ := hg
      have hcl := VR_cells hy hv
      have hcon := hR.con h p ob hp hob
      have hown : p.own = true := by rw [← hcon.1]; exact ho
      obtain ⟨hB, cs, e, hW, hcs, hfit⟩ := hcon.2.2.1 hown
      have hul : uy.cells.toList.length = sz := by rw [← All2_length hcl]; exact hl
      have hul' : uy.cells.size = sz := by simpa using hul
      have hfit2 : p.o + off + uy.cells.size ≤ cs.size := by omega
      refine ⟨rfl, _, run_storeVar hi (by omega) (All2_one hcl) hW hfit2, ?_⟩
      refine hR.write (ob' := { ob with cells := splice ob.cells off (cellsOf y) }) hp hob hown ho (setRow_heap W p.b cs _ e (0, 0) hW) ?_ ?_ (fun k hk => setRow_other W p.b k _ hk) (by simp) rfl rfl rfl fun j z hj => ?_
      · simp [splice_length, hfit2, hcs]
        rw [splice_length _ _ _ (by simpa using hfit2)]; simp [hcs]
      · rw [splice_length _ _ _ (by omega)]; exact hfit
      · rw [splice_get _ _ _ (by omega)] at hj
        rw [List.getElem?_toArray, splice_get _ _ _ (by simpa using hfit2)]
        have hl2 : (cellsOf y).length = uy.cells.toList.length := All2_length hcl
        by_cases hin : off ≤ j ∧ j < off + (cellsOf y).length
        · rw [if_pos hin] at hj
          rw [if_pos (by omega)]
          obtain ⟨u, hu, hr⟩ := All2_get _ z hcl hj
          exact ⟨u, by rw [← hu]; congr 1; omega, hr⟩
        · rw [if_neg hin] at hj
          rw [if_neg (by omega)]
          obtain ⟨u, hu, hr⟩ := hcon.2.1 j z hj
          refine ⟨u, ?_, hr⟩
          simpa [World.cell?, hW] using hu
    · cases hg
  · cases hg
/-- What a slice holds, the machine reads. -/
structure Src (ρ : Rho) (s : St) (W : World) (sz : Nat) (cs : List Value) (b : Option Addr) (m : Nat) (us : List Value) : Prop where
  len : us.length = m * sz
  rel : All2 (CR ρ) cs us
  read : m = 0 ∨ ∃ q, b = some q ∧ ∀ (j : Nat) w, us[j]? = some w → W.cell? (q.add j) = some w
theorem src_first {P : Program} {sz m c : Nat} {cs us : List Value} {b : Option Addr} (h : Src ρ s W sz cs b m us) {W' : World} (hW : ∀ q, W'.cell? q = W.cell? q) :
    (Builtin.firstCells sz m (.slice b m c)).run P W' = .ok us.toArray W' := by
  rcases h.read with h0 | ⟨q, rfl, hq⟩
  · have : us = [] := by have := h.len; rw [h0] at this; simpa using this
    subst this
    subst h0
    cases b <;> simp [Builtin.firstCells, loadCells, loadCellsFrom]
  · exact run_firstCells_some W' sz m q m c us h.len fun j v hj => by rw [hW]; exact hq j v hj
theorem src_holds {sz m : Nat} {cs us : List Value} {q : Addr} (h : Src ρ s W sz cs (some q) m us) (hm : 0 < m) (hsz : 0 < sz) : Room.holdsV W q (m * sz) = true ∧ q.spot = none := by
  rcases h.read with h0 | ⟨q', he, hq⟩
  · omega
  · cases he
    have hlen := h.len
    have hpos : 0 < m * sz := Nat.mul_pos hm hsz
    have hj : (m * sz - 1) < us.length := by omega
    have hread := hq (m * sz - 1) us[m * sz - 1] (List.getElem?_eq_getElem hj)
    have h0 := hq 0 us[0] (List.getElem?_eq_getElem (by omega))
    simp only [Addr.add, if_true] at h0
    have hspot : q.spot = none := by
      unfold World.cell? at h0
      split at h0
      · split at h0
        · cases h0
        · rename_i hs; simpa using hs
      · cases h0
    refine ⟨?_, hspot⟩
    obtain ⟨b, o, sp⟩ := q
    simp only at hspot; subst hspot
    rw [Addr.add_lit] at hread
    unfold World.cell? at hread
    unfold Room.holdsV World.shape?
    split at hread
    · rename_i c e f hb
      simp at hread
      obtain ⟨hlt, _⟩ := Array.getElem?_eq_some_iff.1 hread
      simp only [hb]
      simp; omega
    · cases hread
theorem execOp_append {t : TypeId} {x y : Operand} {dst : Option Tmp} {type : TypeId} {pos : String} {after : Array Edge} {guard : Option (Nat × Bool)} :
    execOp a.eval ⟨dst, .call { callee := .builtin .append, args := #[x, y], argTypes := #[t, t] }, type, pos, after, guard⟩ = (do pure (Next.value (← Builtin.append_ #[t, t] type #[a.eval x, a.eval y]))) := by
  simp [execOp, resolve, invoke, builtin]
theorem nextcap_pos {need old : Nat} (h : old < need) : need ≤ Builtin.nextslicecap need old := le_nextslicecap h
/-- The growth: a new row, or no room. -/
theorem grow_sound {P : Program} {o : Oper} {x y : Operand} {t e ty : TypeId} {i : TypeInfo} {z : Value} {dst : Option Tmp} {pos : String} {after : Array Edge} {guard : Option (Nat × Bool)} {N : Act → World → Prop} {Q : Exit → Act → World → Prop}
    (ho : o = ⟨dst, .call { callee := .builtin .append, args := #[x, y], argTypes := #[t, t] }, ty, pos, after, guard⟩)
    (ht : P.underlying t = some (.slice e)) (hi : P.info? e = some i) (hz : i.zero = some z) (hzs : z.cells.size = i.size) (hsz : 0 < i.size) (hby : 0 < i.bytes)
    {b q : Option Addr} {n c m d : Nat} {cs1 cs2 us1 us2 : List Value} (hx : a.eval x = .slice b n c) (hy : a.eval y = .slice q m d)
    (h1 : Src ρ s W i.size cs1 b n us1) (h2 : Src ρ s W i.size cs2 q m us2) (hg : c < n + m) (hb : b = none → n = 0 ∧ c = 0) (hlim : (n + m) * i.bytes ≤ 2 ^ 47) (hm : 0 < m)
    (hN : ∀ cap, n + m ≤ cap → N (a.put o.dst (.slice (some ⟨W.heap.size, 0, none⟩) (n + m) cap)) (W.drew.alloc (.cells (us1.toArray ++ us2.toArray ++ Builtin.zeroCells z.cells (cap - (n + m))) e)))
    : o.wp P a W N Q := by
  obtain ⟨q', rfl, hq'⟩ : ∃ q', q = some q' ∧ ∀ (j : Nat) w, us2[j]? = some w → W.cell? (q'.add j) = some w := by
    rcases h2.read with h0 | ⟨q', rfl, hq'⟩
    · omega
    · exact ⟨q', rfl, hq'⟩
  have hp : Builtin.nextslicecap (n + m) c * i.bytes ≤ 281474976710656 := growslice_fits hg (by simpa using hlim)
  · refine id ?_
    have hle := nextcap_pos hg
    have h63 : ((n + m : Nat) : Int) ≤ 9223372036854775807 := by
      have : n + m ≤ Builtin.nextslicecap (n + m) c * i.bytes := Nat.le_trans hle (Nat.le_mul_of_pos_right _ hby)
      omega
    have hrun : (Builtin.append_ #[t, t] ty #[a.eval x, a.eval y]).run P W = .ok (.slice (some ⟨W.heap.size, 0, none⟩) (n + m) (grownCap W (n + m) c e))
        (W.drew.alloc (.cells (us1.toArray ++ us2.toArray ++ Builtin.zeroCells z.cells (grownCap W (n + m) c e - (n + m))) e)) := by
      rw [hx, hy]
      cases b with
      | none =>
        obtain ⟨rfl, rfl⟩ := hb rfl
        have hu1 : us1 = [] := by have := h1.len; simpa using this
        subst hu1
        have hr := run_append_nil (P := P) W t ty e i z ht hi hz q' m d us2 h2.len hq' hm (by omega) (by rw [Nat.zero_add, nextslicecap_zero hm] at hp; exact hp)
        simpa using hr
      | some b' =>
        have hold : ∀ (j : Nat) w, us1[j]? = some w → W.cell? (b'.add j) = some w := by
          rcases h1.read with h0 | ⟨b'', he, hq⟩
          · have : us1 = [] := by have := h1.len; rw [h0] at this; simpa using this
            subst this; intro j w hj; simp at hj
          · cases he; exact hq
        exact run_append_grow (P := P) W t ty e i z ht hi hz b' n c us1 h1.len hold q' m d us2 h2.len hq' hg h63 hp
    unfold Oper.wp
    subst ho
    rw [execOp_append, run_v hrun]
    exact hN _ (grownCap_ge W (n + m) c e)
theorem wp_ok {P : Program} {o : Oper} {N : Act → World → Prop} {Q : Exit → Act → World → Prop} {u : Value} {W' : World} (h : (execOp a.eval o).run P W = .ok (.value u) W') (hN : N (a.put o.dst u) W') : o.wp P a W N Q := by
  unfold Oper.wp; rw [h]; exact hN
theorem ap_value {B sz n m c : Nat} {ρ' : Rho} {p : Pl} (hp : ρ' B = some p) (h : n + m ≤ c) {b : Option Addr} (hb : n + m ≠ 0 → b = some ⟨p.b, p.o, none⟩)
    (ho : p.o + c * sz = p.sz) (hb' : ∃ o', b = some ⟨p.b, o', none⟩ ∧ o' ≤ p.sz ∧ (c ≠ 0 → o' = p.o)) : VR ρ' (sl B 0 (n + m) sz) (.slice b (n + m) c) :=
  ⟨p, b, c, hp, rfl, h, by simpa using hb, fun _ => ⟨by simpa using ho, by simpa using hb'⟩⟩
theorem ap_sound {o : Oper} {x y : Operand} {t e ty : TypeId} {z : List Value} {sz by' : Nat} {dst : Option Tmp} {pos : String} {after : Array Edge} {guard : Option (Nat × Bool)} {v : Value} {N : Act → World → Prop} {Q : Exit → Act → World → Prop}
    (ho : o = ⟨dst, .call { callee := .builtin .append, args := #[x, y], argTypes := #[t, t] }, ty, pos, after, guard⟩) (hR : Rel C ρ s W) (hE : VRE ρ env a)
    (ht : C.P.underlying t = some (.slice e)) (hz : zeroT C.P e = some (z, sz, by')) (hsz : 0 < sz) (hby : 0 < by') (hg : ap sz by' (ev env x) (ev env y) s = some (v, s')) (hfree : Free ρ s.n s'.n)
    (hN : ∀ ρ' W' u, Rel C ρ' s' W' → Way ρ s W ρ' s' W' → VR ρ' v u → N (a.put o.dst u) W') : o.wp C.P a W N Q := by
  obtain ⟨i, zv, hi, hzv, hzc, his, hib, hzl, hself⟩ := zeroT_info hz
  have hzs : zv.cells.size = i.size := by rw [his, ← hzl, ← hzc]; simp
  subst his
  subst hib
  unfold ap at hg
  simp only [Option.bind_eq_some_iff] at hg
  obtain ⟨new, hnew, hg⟩ := hg
  have hyv := ev_VR hE y
  have hxv := ev_VR hE x
  obtain ⟨q, m, d, us2, hy, hl2, hr2, hread2, hnone2⟩ := slice_read hnew hyv fun h p ob _ h1 h2 => hR.con h p ob h1 h2
  have h2 : Src ρ s W i.size new q m us2 := ⟨hl2, hr2, by
    cases q with
    | none => exact .inl (hnone2 rfl)
    | some q' => exact (hread2 q' rfl).imp id fun h => ⟨q', rfl, h⟩⟩
  have hnl : new.length = m * i.size := by rw [All2_length hr2]; exact hl2
  have hdiv : new.length / i.size = m := by rw [hnl]; exact Nat.mul_div_cancel _ hsz
  have grown : ∀ {n : Nat} {cs1 us1 : List Value} {s1 : St}, us1.length = n * i.size → All2 (CR ρ) cs1 us1 → s1.n = s.n → Rel C ρ s1 W → Way ρ s W ρ s1 W → s' = s1.push ⟨cs1 ++ new, true⟩ → v = sl s.n 0 (n + m) i.size →
      ∀ cap, n + m ≤ cap → N (a.put o.dst (.slice (some ⟨W.heap.size, 0, none⟩) (n + m) cap)) (W.drew.alloc (.cells (us1.toArray ++ us2.toArray ++ Builtin.zeroCells zv.cells (cap - (n + m))) e)) := by
    intro n cs1 us1 s1 hl1 hr1 hn1 hR1 hw1 hs' hv cap hcap
    have hcs : (us1.toArray ++ us2.toArray ++ Builtin.zeroCells zv.cells (cap - (n + m))).size = cap * i.size := by
      simp only [Array.size_append, List.size_toArray, size_zeroCells, hl1, hl2, hzs, ← Nat.add_mul]
      congr 1; omega
    have hrel := All2_append hr1 hr2
    obtain ⟨g1, g2⟩ := hR1.alloc (by rw [hn1]; exact hfree s.n (Nat.le_refl _) (by rw [hs', St.push_n, hn1]; omega)) (W' := W.drew.alloc (.cells (us1.toArray ++ us2.toArray ++ Builtin.zeroCells zv.cells (cap - (n + m))) e)) (cells := cs1 ++ new) rfl rfl rfl rfl (fun j w hj => by
      obtain ⟨u, hu, hr⟩ := All2_get j w hrel hj
      refine ⟨u, ?_, hr⟩
      have hlt : j < (us1 ++ us2).length := (List.getElem?_eq_some_iff.1 hu).1
      rw [Array.getElem?_append_left (by simpa using hlt)]
      simpa using hu) (by rw [hcs, All2_length hrel, List.length_append, hl1, hl2, ← Nat.add_mul]; exact Nat.mul_le_mul_right _ hcap)
    subst hs'
    subst hv
    rw [hn1] at g1 g2
    refine hN _ _ _ g1 (hw1.trans g2) (ap_value (upd_self _ _ _) hcap (fun _ => rfl) (by simp only [Nat.zero_add]; exact hcs.symm) ⟨0, rfl, Nat.zero_le _, fun _ => rfl⟩)
  split at hg
  · rename_i n0 e0 hex
    rw [hex] at hxv
    obtain ⟨rfl, hx⟩ := hxv
    split at hg
    · simp only [Option.some.injEq, Prod.mk.injEq] at hg
      obtain ⟨rfl, rfl⟩ := hg
      have hm0 : m = 0 := by
        rcases Nat.mul_eq_zero.1 (show m * i.size = 0 by rw [← hnl]; rfl) with h | h
        · exact h
        · omega
      refine (wp_ok (u := .slice none 0 0) (W' := W) ?_ (hN ρ W _ hR Way.refl ⟨rfl, rfl⟩))
      subst ho
      rw [execOp_append]
      refine run_v ?_
      subst hm0
      have hf := src_first (P := C.P) (c := d) h2 (W' := W) fun _ => rfl
      rw [hx, hy]
      simp [Builtin.append_, run_underlying ht, sizeOf, typeInfo, hi, Builtin.lenOf, hf]
    · rename_i c cs
      obtain ⟨hlim, hg⟩ := Option.ite_none_right_eq_some.1 hg
      simp only [Option.some.injEq, Prod.mk.injEq] at hg
      obtain ⟨hv, hs'⟩ := hg
      have hm : 0 < m := by
        rcases Nat.eq_zero_or_pos m with h | h
        · rw [h] at hnl; simp at hnl
        · exact h
      refine grow_sound (us1 := []) (cs1 := []) (n := 0) (c := 0) (b := none) ho ht hi hzv hzs hsz hby hx hy ⟨by simp, trivial, .inl rfl⟩ h2 (by omega) (fun _ => ⟨rfl, rfl⟩) (by rw [Nat.zero_add, ← hdiv]; exact hlim) hm
        (grown (s1 := s) (n := 0) (cs1 := []) (us1 := []) (by simp) trivial rfl hR Way.refl (by simpa using hs'.symm) (by rw [← hv, hdiv, Nat.zero_add]))
  · rename_i h off n e0 hex
    rw [hex] at hxv
    obtain ⟨p, ba, c, hp, hx, hnc, hba, hown'⟩ := hxv
    simp only [Option.bind_eq_some_iff] at hg
    obtain ⟨ob, hob, old, hold, hg⟩ := hg
    obtain ⟨hcond, hg'⟩ := Option.ite_none_right_eq_some.1 hg
    clear hg
    · rw [Bool.and_eq_true, Bool.and_eq_true, beq_iff_eq] at hcond
      obtain ⟨⟨hob0, rfl⟩, hsh⟩ := hcond
      rw [Bool.and_eq_true, decide_eq_true_eq] at hob0
      obtain ⟨hlim, hob1⟩ := hob0
      rw [hdiv] at hlim
      obtain ⟨hv, hs'⟩ := Prod.mk.inj (Option.some.inj hg')
      have hcon := hR.con h p ob hp hob
      have hown : p.own = true := by rw [← hcon.1]; exact hob1
      obtain ⟨hB, cs, ce, hW, hcs, hfit⟩ := hcon.2.2.1 hown
      obtain ⟨hceq, o', hbo, ho', hco⟩ := hown' hown
      obtain ⟨us1, hr1, hl1, hu1⟩ := con_read hcon hold
      obtain ⟨k1, k2, k3, k4⟩ := rdCells_spec hold
      have h1 : Src ρ s W i.size old ba n us1 := ⟨hl1, hr1, by
        by_cases hn : n = 0
        · exact .inl hn
        · exact .inr ⟨_, hba hn, hu1⟩⟩
      rw [hdiv] at hv
      by_cases hroom : n + m ≤ c
      ·
        have hst : o' + n * i.size + us2.length ≤ cs.size := by
          rw [hl2, hcs]
          by_cases hc0 : c = 0
          · have hn0 : n = 0 := by omega
            have hm0 : m = 0 := by omega
            subst hn0; subst hm0; simpa using ho'
          · rw [hco hc0, ← hceq]
            have := Nat.mul_le_mul_right i.size hroom
            rw [Nat.add_mul] at this
            omega
        have hrs := run_storeCells_at C.P p.b (o' + n * i.size) ce us2 0 cs W hW (by simpa using hst) (All2_one hr2)
        simp only [Nat.add_zero, splice_toArray] at hrs
        have hf := src_first (P := C.P) (c := d) h2 (W' := W) fun _ => rfl
        have hrun : (Builtin.append_ #[t, t] ty #[a.eval x, a.eval y]).run C.P W = .ok (.slice ba (n + m) c) (W.setRow p.b (splice cs.toList (o' + n * i.size) us2).toArray) := by
          rw [hx, hy, hbo]
          simp [Builtin.append_, run_underlying ht, sizeOf, typeInfo, hi, Builtin.lenOf, hroom, hf, Addr.add_lit, hrs]
        obtain ⟨g1, g2⟩ := hR.move (hfree s.n (Nat.le_refl _) (by rw [← hs', St.push_n, St.put_n]; omega)) (W' := W.setRow p.b (splice cs.toList (o' + n * i.size) us2).toArray) (o2 := p.o + off) (cells := old ++ new) hp hob hown (setRow_heap W p.b cs _ ce (0, 0) hW)
          (by simp; rw [splice_length _ _ _ (by simpa using hst)]; simpa using hcs) (by
            rw [List.length_append, k3, hnl, ← Nat.add_mul, ← hceq]
            exact Nat.add_le_add_left (Nat.mul_le_mul_right _ hroom) _) (fun k hk => setRow_other W p.b k _ hk) (by simp) rfl rfl rfl (fun j w hj => by
              by_cases hc0 : c = 0
              · have hn0 : n = 0 := by omega
                have hm0 : m = 0 := by omega
                have e1 : old = [] := by rw [hn0] at k3; simpa using k3
                have e2 : new = [] := by rw [hm0] at hnl; simpa using hnl
                rw [e1, e2] at hj; simp at hj
              · have ho2 := hco hc0
                subst ho2
                rw [List.getElem?_toArray, splice_get _ _ _ (by simpa using hst)]
                by_cases hjn : j < n * i.size
                · rw [List.getElem?_append_left (by omega)] at hj
                  rw [if_neg (by omega)]
                  obtain ⟨u, hu, hr⟩ := hcon.2.1 (off + j) w (k4 j w hj)
                  refine ⟨u, ?_, hr⟩
                  have : W.cell? ⟨p.b, p.o + (off + j), none⟩ = cs[p.o + (off + j)]? := by simp [World.cell?, hW]
                  rw [this] at hu
                  simpa [Nat.add_assoc] using hu
                · rw [List.getElem?_append_right (by omega), k3] at hj
                  obtain ⟨u, hu, hr⟩ := All2_get _ w hr2 hj
                  have hlt : j - n * i.size < us2.length := (List.getElem?_eq_some_iff.1 hu).1
                  rw [if_pos (by omega)]
                  exact ⟨u, by rw [← hu]; congr 1; omega, hr⟩)
        subst hs'
        subst hv
        refine wp_ok ?_ (hN _ _ _ g1 g2 (ap_value (p := ⟨p.b, p.o + off, p.sz, true⟩) (upd_self _ _ _) hroom (fun hne => ?_) hceq ⟨o', hbo, ho', hco⟩))
        · subst ho
          rw [execOp_append]
          exact run_v hrun
        · rw [hbo, hco (by omega)]
      · have hm : 0 < m := by omega
        have hne : ∀ q', q = some q' → p.b ≠ q'.block := by
          intro q' hq'
          subst hq'
          unfold St.got at hnew
          split at hnew
          · rename_i n' e' hey
            rw [hey] at hyv
            obtain ⟨_, hh⟩ := hyv
            rw [hy] at hh; cases hh
          · rename_i h' off' n' e' hey
            rw [hey] at hyv hsh
            obtain ⟨p', b', c', hp', hh, _, hb', _⟩ := hyv
            rw [hy] at hh
            cases hh
            have hm' : m ≠ 0 := by omega
            rw [if_neg hm'] at hnew
            split at hnew
            · simp only [Option.bind_eq_some_iff] at hnew
              obtain ⟨ob', hob', hnew⟩ := hnew
              obtain ⟨j1, j2, j3, j4⟩ := rdCells_spec hnew
              obtain rfl : q' = _ := Option.some.inj (hb' hm')
              have hcon' := hR.con h' p' ob' hp' hob'
              have hhne : h' ≠ h := by
                intro hh
                subst hh
                simp only [Bool.or_eq_true, beq_iff_eq, bne_iff_ne, ne_eq, not_true_eq_false, decide_eq_true_eq, hm', false_or, or_false] at hsh
                have := Nat.le_trans hsh (Nat.le_of_eq rfl)
                have hle : (n + m) * i.size ≤ c * i.size := by omega
                exact hroom (Nat.le_of_mul_le_mul_right hle hsz)
              cases hpo : p'.own with
              | true => intro hbb; exact hhne (hR.inj h' h p' p ob' ob hp' hp hob' hob hpo hown hbb.symm)
              | false =>
                rcases hcon'.2.2.2 hpo with hz | hz
                · rw [hz] at j1
                  have : 0 < m * i.size := Nat.mul_pos hm hsz
                  simp at j1; omega
                · simp only; omega
            · cases hnew
          · cases hnew
        exact grow_sound (us1 := us1) (cs1 := old) ho ht hi hzv hzs hsz hby hx hy h1 h2 (by omega) (fun hh => by rw [hbo] at hh; cases hh) hlim hm
          (grown (s1 := s.put h none) hl1 hr1 rfl (hR.kill h) (Way.kill h) hs'.symm hv.symm)
  · cases hg
theorem mu_sound {o : Oper} {g : M1} {v : Value} {N : Act → World → Prop} {Q : Exit → Act → World → Prop} (hR : Rel C ρ s W) (hE : VRE ρ env a) (h : opOf C.P env o = some (.mu g)) (hg : g s = some (v, s')) (hfree : Free ρ s.n s'.n)
    (hN : ∀ ρ' W' u, Rel C ρ' s' W' → Way ρ s W ρ' s' W' → VR ρ' v u → N (a.put o.dst u) W') : o.wp C.P a W N Q := by
  obtain ⟨dst, op, type, pos, after, guard⟩ := o
  cases op
  case store t x y =>
    simp only [opOf, Option.map_eq_some_iff, Stp.mu.injEq] at h
    obtain ⟨sz, hs, rfl⟩ := h
    obtain ⟨rfl, W', h1, h2, h3⟩ := sto_sound hR hs hg (ev_VR hE x) (ev_VR hE y)
    unfold Oper.wp
    have hrun : (execOp a.eval ⟨dst, .store t x y, type, pos, after, guard⟩).run C.P W = .ok .skip W' := by simp [execOp, h1]
    rw [hrun]
    exact hN ρ W' undef h2 h3 ⟨#[], rfl, trivial⟩
  case call c =>
    obtain ⟨callee, args, argTypes⟩ := c
    simp only [opOf] at h
    split at h
    · split at h
      · split at h <;> cases h
      · cases h
    · split at h
      · split at h <;> cases h
      · cases h
    · split at h <;> cases h
    · split at h
      · rename_i t u x y hts has
        split at h
        · rename_i htu
          simp only [beq_iff_eq] at htu
          subst htu
          split at h
          · rename_i e ht
            simp only [Option.bind_eq_some_iff] at h
            obtain ⟨⟨z, sz, by'⟩, hz, h⟩ := h
            split at h
            · rename_i hc
              simp only [Bool.and_eq_true, decide_eq_true_eq] at hc
              simp only [Option.some.injEq, Stp.mu.injEq] at h
              subst h
              have e1 : argTypes = #[t, t] := by cases argTypes; simp_all
              have e2 : args = #[x, y] := by cases args; simp_all
              subst e1; subst e2
              exact ap_sound rfl hR hE ht hz hc.1 hc.2 hg hfree hN
            · cases h
          · cases h
        · cases h
      · cases h
    · cases h
  case slice t x lo hi mx => cases mx <;> simp only [opOf] at h <;> (repeat' (split at h)) <;> simp [Option.map_eq_some_iff] at h
  all_goals (simp only [opOf] at h; (repeat' (split at h)) <;> simp [Option.bind_eq_some_iff, Option.map_eq_some_iff] at h <;> (try (obtain ⟨_, _, h⟩ := h; (repeat' (split at h)) <;> simp at h)))
end
end Go.Proofs.Ytmikdglafmfnfaa.Eng
