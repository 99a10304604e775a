/- From the machine's arguments to trees, and from the pure call to the machine's. -/
import Derived.Test.YtmikdglafmfnfaaEngQ
import Derived.Test.YtmikdglafmfnfaaEngR
namespace Go.Proofs.Ytmikdglafmfnfaa.Eng
open Go Go.RowKit
set_option linter.unusedVariables false
/-- The kind d read as trees. -/
def Rdt {α : Type} (d : Kind α) (t : α → List T) : Prop := (∀ x, (t x).length = d.sz) ∧ ∀ s x cs, d.E s x cs → ∃ F, TRs s false (t x) cs F
theorem rdt_int : Rdt (kInt .i64) fun n => [.c (.int .i64 n)] := ⟨fun _ => rfl, fun s x cs h => ⟨[], by subst h; simp [TRs, TR, plain]⟩⟩
theorem rdt_u8 : Rdt (kInt .u8) fun n => [.c (.int .u8 n)] := ⟨fun _ => rfl, fun s x cs h => ⟨[], by subst h; simp [TRs, TR, plain]⟩⟩
theorem rdt_bool : Rdt kBool fun b => [.c (.bool b)] := ⟨fun _ => rfl, fun s x cs h => ⟨[], by subst h; simp [TRs, TR, plain]⟩⟩
theorem rdt_str : Rdt kStr fun b => [.c (.string b)] := ⟨fun _ => rfl, fun s x cs h => ⟨[], by subst h; simp [TRs, TR, plain]⟩⟩
theorem rdt_pair {α β : Type} {a : Kind α} {b : Kind β} {ta : α → List T} {tb : β → List T} (ha : Rdt a ta) (hb : Rdt b tb) : Rdt (kPair a b) fun p => ta p.1 ++ tb p.2 :=
  ⟨fun x => by simp [ha.1, hb.1, kPair], fun s x cs ⟨c, d, h, h1, h2⟩ => by
    obtain ⟨F1, g1⟩ := ha.2 s _ _ h1
    obtain ⟨F2, g2⟩ := hb.2 s _ _ h2
    exact ⟨F1 ++ F2, TRs_app.2 ⟨c, d, F1, F2, h, g1, g2, rfl⟩⟩⟩
theorem rdt_iso {α β : Type} {d : Kind α} {f : β → α} {t : α → List T} (h : Rdt d t) : Rdt (kIso d f) fun x => t (f x) := ⟨fun x => h.1 (f x), fun s x cs hx => h.2 s (f x) cs hx⟩
theorem rdt_row {α : Type} {d : Kind α} {t : α → List T} (hd : Rdt d t) {s : St} : ∀ (xs : List α) (cells : List Value), cells.length = xs.length * d.sz → (∀ (i : Nat) x, xs[i]? = some x → d.E s x ((cells.drop (i * d.sz)).take d.sz)) → ∃ F, TRs s false (xs.flatMap t) cells F
  | [], cells, hl, _ => ⟨[], by
      have : cells = [] := List.length_eq_zero_iff.1 (by simpa using hl)
      subst this; simp [TRs]⟩
  | x :: xs, cells, hl, h => by
    have h0 := h 0 x rfl
    rw [Nat.zero_mul, List.drop_zero] at h0
    obtain ⟨F1, g1⟩ := hd.2 s x _ h0
    rw [List.length_cons, Nat.add_mul, Nat.one_mul] at hl
    obtain ⟨F2, g2⟩ := rdt_row hd xs (cells.drop d.sz) (by rw [List.length_drop]; omega) (fun i y hy => by
      have := h (i + 1) y (by simpa using hy)
      rwa [Nat.add_mul, Nat.one_mul, Nat.add_comm, ← List.drop_drop] at this)
    refine ⟨F1 ++ F2, ?_⟩
    rw [List.flatMap_cons]
    exact TRs_app.2 ⟨cells.take d.sz, cells.drop d.sz, F1, F2, (List.take_append_drop _ _).symm, g1, g2, rfl⟩
theorem flatMap_len {α : Type} {t : α → List T} {n : Nat} (h : ∀ x, (t x).length = n) : ∀ xs : List α, (xs.flatMap t).length = xs.length * n
  | [] => by simp
  | x :: xs => by rw [List.flatMap_cons, List.length_append, h, flatMap_len h xs, List.length_cons, Nat.add_mul]; omega
theorem rdt_sl {α : Type} {d : Kind α} {t : α → List T} {hsz : 0 < d.sz} (hd : Rdt d t) : Rdt (kSl d hsz) fun xs => [.l d.sz (xs.flatMap t)] :=
  ⟨fun _ => rfl, fun s xs cs ⟨v, h, cells, ⟨h1, h2⟩, h3⟩ => by
    subst h
    obtain ⟨F, hF⟩ := rdt_row hd xs cells h1 h3
    have hlen := flatMap_len hd.1 xs
    rcases h2 with ⟨rfl, h0⟩ | ⟨b, off, ob, rfl, g1, g2, g3⟩
    · have : xs = [] := List.length_eq_zero_iff.1 h0
      subst this
      exact ⟨[], TRs_one.2 ⟨nl, rfl, by simp [TR]⟩⟩
    · refine ⟨b :: F, TRs_one.2 ⟨_, rfl, TR_l.2 (.inr ⟨b, off, xs.length, rfl, hlen, ob, F, g1, fun h => (by cases h), by rw [hlen]; exact g2, ?_, rfl⟩)⟩⟩
      rw [hlen, g3]; exact hF⟩
/-- The pure call is the machine's call; behind it stands what stood. -/
theorem calls_of {C : Ctx} {ρ : Rho} {s : St} {f : FuncId} {g : Sg} {es args sv : List Value} {vs : List Value} {cs : List (List T)} {D : List Nat} (hr : Rel C ρ s C.w0) (ht : ∀ h, s.n ≤ h → ρ h = none) (ha : All2 (VR ρ) es args) (hp : ParR s g.ps es vs cs sv [] D) (hg : g.rs = [(0, [.v])])
    (h : cl2 C f g vs cs fun vs' _ => vs'.head? = some (.bool true)) : Calls C.P f args.toArray C.w0 fun e W' => e = .returned (.bool true) ∧ Below C.w0.heap.size C.w0 W' := by
  obtain ⟨v, s', M', vs', cs', ⟨hn, hgo⟩, _, hres, _, _, _, hk⟩ := h s es sv [] D hp List.nodup_nil (fun x hx => by simp at hx)
  refine Calls.mono (hgo ρ C.w0 args (fun x h1 h2 => ht x h1) hr ha) fun e W' he => ?_
  cases e with
  | returned u =>
    obtain ⟨ρ', _, hrel, hv⟩ := he
    obtain ⟨as', v1, v2, c1, c2, c3, M1, M2, M3, e1, e2, e3, e4, e5, hV, _, _⟩ := hres.ex
    rw [hg] at hV
    simp only [ResV, ResC] at hV
    obtain ⟨a, as2, us, w1, w2, d1, d2, N1, N2, rfl, rfl, rfl, ⟨u1, us', vs1, rfl, rfl, _, rfl, rfl, _, _⟩, ⟨rfl, rfl, _, _⟩, hu, _⟩ := hV
    subst e3
    simp only [List.cons_append, List.head?_cons, Option.some.injEq] at hk
    subst hk
    simp only [List.cons.injEq, and_true] at hu
    subst hu
    rw [e1] at hv
    have : u = .bool true := hv
    exact ⟨by rw [this], hrel.bel⟩
  | outgrown => exact he.elim
  | panicked x => exact he.elim
end Go.Proofs.Ytmikdglafmfnfaa.Eng
