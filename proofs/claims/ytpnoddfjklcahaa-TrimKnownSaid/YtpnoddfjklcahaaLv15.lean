import Derived.Test.YtpnoddfjklcahaaLv14
import Derived.ProofKit
import Derived.SizedLaws
import Derived.Below
import Derived.Carry
set_option linter.all false
namespace Go.Lv
open Go.ChangeShapes Go.WideShapes Go.ChangeAt Go.RowKit

/-! ### the rows of the laws: arguments opened, and read again -/
section
variable {H : Type} {enc : TypeId × Value → H} {P : Program} {w : World} {base : Nat} {spare : Nat → Bool} {held : Bool}

theorem open_list {α : Type} (E : Enc α) {t e : TypeId} {fuel : Nat} {cs : List Value} {x : DataW H × List MemPlace} (ht : P.underlying t = some (.slice e)) (hc : P.cellsOf e = E.sz)
    (hd : ∀ n cs y, DataW.trod enc P w base spare held n e cs = some y → ∃ a, cs = E.enc a) (h : DataW.trod enc P w base spare held fuel t cs = some x) :
    ∃ A c, ∃ l : List α, cs = [.slice A l.length c] ∧ l.length ≤ c ∧ c ≤ maxLen ∧ Rd E w A l := by
  rcases DataW.trod_slice ht h with ⟨rfl, _⟩ | ⟨a, len, cap, elems, rest, n, _, rfl, _, _, hl, hm, hlen, hel, _, _⟩
  · exact ⟨none, 0, [], rfl, Nat.le_refl _, Nat.zero_le _, Rd.nil E w none⟩
  have each : ∀ i, i < len → ∃ b : α, w.cells? base (a.add (i * E.sz)) E.sz = some (E.enc b) := by
    intro i hi
    have h1 := hel i hi
    have h2 : elems[i]? = some elems[i] := List.getElem?_eq_getElem (by omega)
    rw [h2, Option.bind_eq_some_iff, hc] at h1
    obtain ⟨cs', h3, h4⟩ := h1
    obtain ⟨b, rfl⟩ := hd _ _ _ h4
    exact ⟨b, h3⟩
  have build : ∀ k, k ≤ len → ∃ l : List α, l.length = k ∧ Rd E w (some a) l := by
    intro k
    induction k with
    | zero => exact fun _ => ⟨[], rfl, Rd.nil E w _⟩
    | succ k ih =>
      intro hk
      obtain ⟨l, hll, hr⟩ := ih (by omega)
      obtain ⟨b, hb⟩ := each k (by omega)
      refine ⟨l ++ [b], by simp [hll], ?_⟩
      intro j u hj
      refine ⟨a, rfl, ?_⟩
      rw [E.all_append, E.all_single] at hj
      rcases Nat.lt_or_ge j (E.all l).length with h1 | h1
      · rw [List.getElem?_append_left h1] at hj
        exact Cells.some hr j u hj
      · rw [List.getElem?_append_right h1] at hj
        rw [E.all_len, hll] at hj h1
        have h2 := World.cells?_some hb
        have h3 : j - k * E.sz < E.sz := by
          have := (List.getElem?_eq_some_iff.1 hj).1
          rw [E.len] at this; exact this
        have h4 := h2.2.2 (j - k * E.sz) h3
        rw [add_add, show k * E.sz + (j - k * E.sz) = j by omega] at h4
        rw [h4, hj]
  obtain ⟨l, hll, hr⟩ := build len (Nat.le_refl _)
  subst hll
  exact ⟨some a, cap, l, rfl, hl, hm, hr⟩

theorem trodAll_stays (hl : laidOutB P = true) : ∀ {ts : List TypeId} {vs : List Value} {ds : List (DataW H)} {ps : List MemPlace} {W W' : World}, (ts.all fun t => P.readableRec t && decide (t < P.types.size)) = true →
    DataW.TrodAll enc P W 0 (fun _ => true) true ts vs ds ps → Below W.heap.size W W' → (∀ x ∈ ps, x.block < W.heap.size) → DataW.TrodAll enc P W' 0 (fun b => decide (b < W.heap.size)) true ts vs ds ps
  | [], _, _, _, _, _, _, h, _, _ => by
    obtain ⟨rfl, rfl, rfl⟩ := trodAll_nil h
    simp [DataW.TrodAll]
  | t :: ts, _, _, _, W, W', hr, h, hb, hlt => by
    obtain ⟨v, vs1, d, ds1, p, q, rfl, rfl, rfl, h1, h2⟩ := trodAll_cons h
    simp only [List.all_cons, Bool.and_eq_true, decide_eq_true_eq] at hr
    exact ⟨p, q, Below.trod hl hr.1.1 hr.1.2 h1 hb (fun x hx => hlt x (List.mem_append_left _ hx)), trodAll_stays hl hr.2 h2 hb (fun x hx => hlt x (List.mem_append_right _ hx)), rfl⟩
end

theorem Ext.belowN {w w1 : World} (h : Ext w w1) (m : Nat) : Below w.heap.size w (w1.drewN m) := ⟨h.os, h.tape, h.output, h.size, fun k hk => h.block k hk id⟩

/-- a law: what it hands is true, and nothing that lay there is changed -/
theorem law_calls {P : Program} {f : FuncId} {args : Array Value} {W : World} (h : Fc P f args W fun v w' => Ext W w' ∧ v = .bool true) : Calls P f args W fun e W' => e = .returned (.bool true) ∧ Below W.heap.size W W' := by
  refine (h 0).mono ?_
  rintro e W' ⟨v, w1, m, _, rfl, rfl, hext, rfl⟩
  exact ⟨rfl, hext.belowN m⟩

theorem law_post {H : Type} {enc : TypeId × Value → H} {P : Program} {f : Func} {s : ChangeSpec} {apart handsOn : Bool} {W W' : World} {args : Array Value} {ds gs : List (DataW H)} {before : List MemPlace} {tb : TypeId}
    (hW : DataW.Whole enc P f.params.toList s.vars apart W args.toList ds gs before) (hv : s.vars = []) (hr : f.resultTypes = #[tb]) (htb : P.underlying tb = some .bool) (hs : s.fn H (ds ++ gs) = { results := [.lit (.bool true)], args := ds })
    (hl : laidOutB P = true) (hrd : (f.params.toList.all fun t => P.readableRec t && decide (t < P.types.size)) = true) (hb : Below W.heap.size W W') : s.post enc P f apart true handsOn false W args (.bool true) W' := by
  have hW' := hW
  obtain ⟨p, q, hA, hV, rfl, _, _⟩ := hW
  rw [hv] at hV
  obtain ⟨rfl, rfl⟩ := trodVars_none hV
  simp only [List.append_nil] at hW' hs
  have hlt : ∀ y ∈ p, y.block < W.heap.size := fun y hy => by simpa using hW'.lt y hy
  refine ⟨ds, [], p, [], p, [], hW', ?_, ?_, ?_, hb.frame _, fun h => by cases h⟩
  · simp only [List.append_nil, hs]
    rw [hr]
    exact trodAll_mk1 ⟨1, by simp [DataW.trod, htb, Value.cells]⟩
  · simp only [List.append_nil, hs]
    exact trodAll_stays hl hrd hA hb hlt
  · simp only [List.append_nil, hs]
    rw [hv]
    simp [DataW.TrodVars]
end Go.Lv
