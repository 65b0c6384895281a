import Derived.Test.YtpnoddfjklcahaaLv11
import Derived.MapKept
set_option linter.all false
namespace Go.Lv
open Go.RowKit

/-! ### maps with whole numbers as keys -/
def lk : List MapEntry → Int → Option Value
  | [], _ => none
  | e :: r, n => match e.key with
    | .int _ m => if m = n then some e.val else lk r n
    | _ => lk r n

def IntKeys (kd : IntKind) (es : List MapEntry) : Prop := ∀ e ∈ es, ∃ n, e.key = .int kd n

theorem findNow_int {kd : IntKind} (n : Int) : ∀ (es : List MapEntry) (i : Nat), IntKeys kd es →
    (lk es n = none ∧ Instr.findNow (.int kd) (.int kd n) es i = some none) ∨
    ∃ j v, lk es n = some v ∧ Instr.findNow (.int kd) (.int kd n) es i = some (some (i + j, v)) ∧ (∃ e, es[j]? = some e ∧ e.key = .int kd n) ∧
      ∀ (g : MapEntry → MapEntry) (u : Value), (∀ e, e.key = .int kd n → (g e).key = .int kd n ∧ (g e).val = u) → ∀ m, lk (es.modify j g) m = if m = n then some u else lk es m
  | [], i, _ => .inl ⟨rfl, rfl⟩
  | e :: r, i, h => by
    obtain ⟨k, hk⟩ := h e (by simp)
    by_cases he : k = n
    · subst he
      refine .inr ⟨0, e.val, by simp [lk, hk], by simp [Instr.findNow, hk, Instr.sameNow], ⟨e, rfl, hk⟩, fun g u hg m => ?_⟩
      obtain ⟨g1, g2⟩ := hg e hk
      simp only [List.modify_zero_cons, lk, g1, g2, hk]
      by_cases hm : k = m
      · subst hm; simp
      · rw [if_neg hm, if_neg (Ne.symm hm), if_neg hm]
    · have hne : (n == k) = false := by simp [Ne.symm he]
      have hstep : Instr.findNow (.int kd) (.int kd n) (e :: r) i = Instr.findNow (.int kd) (.int kd n) r (i + 1) := by simp [Instr.findNow, hk, Instr.sameNow, hne]
      rcases findNow_int n r (i + 1) (fun x hx => h x (List.mem_cons_of_mem _ hx)) with ⟨h1, h2⟩ | ⟨j, v, h1, h2, h3, h4⟩
      · exact .inl ⟨by simp [lk, hk, he, h1], by rw [hstep, h2]⟩
      · refine .inr ⟨j + 1, v, by simp [lk, hk, he, h1], by rw [hstep, h2]; congr 3; omega, by simpa using h3, fun g u hg m => ?_⟩
        have := h4 g u hg m
        simp only [List.modify_succ_cons, lk, hk, this]
        by_cases hm : k = m
        · subst hm; rw [if_pos rfl, if_pos rfl, if_neg he]
        · rw [if_neg hm, if_neg hm]

theorem lk_append {kd : IntKind} {n : Int} {v : Value} {b : Nat} : ∀ {es : List MapEntry}, IntKeys kd es → lk es n = none → ∀ m, lk (es ++ [⟨.int kd n, v, b⟩]) m = if m = n then some v else lk es m
  | [], _, _, m => by
    simp only [List.nil_append, lk]
    by_cases h : n = m
    · subst h; simp
    · rw [if_neg h, if_neg (Ne.symm h)]
  | e :: r, h, hl, m => by
    obtain ⟨k, hk⟩ := h e (by simp)
    simp only [lk, hk] at hl
    by_cases hkn : k = n
    · rw [if_pos hkn] at hl; cases hl
    · rw [if_neg hkn] at hl
      have ih := lk_append (v := v) (b := b) (fun x hx => h x (List.mem_cons_of_mem _ hx)) hl m
      simp only [List.cons_append, lk, hk, ih]
      by_cases hm : k = m
      · subst hm; rw [if_pos rfl, if_pos rfl, if_neg hkn]
      · rw [if_neg hm, if_neg hm]

def MapI (kd : IntKind) (f : Int → Option Value) (b : Nat) (w : World) : Prop := ∃ es cl, w.heap[b]? = some (.map es cl) ∧ IntKeys kd es.toList ∧ ∀ n, lk es.toList n = f n

theorem MapI.only {S : Nat → Prop} {kd : IntKind} {f : Int → Option Value} {b : Nat} {w w' : World} (h : MapI kd f b w) (ho : Only S w w') (hn : ¬ S b) : MapI kd f b w' := by
  obtain ⟨es, cl, h1, h2⟩ := h; exact ⟨es, cl, ho.get h1 hn, h2⟩
theorem MapI.ext {kd : IntKind} {f : Int → Option Value} {b : Nat} {w w' : World} (h : MapI kd f b w) (ho : Ext w w') : MapI kd f b w' := h.only ho id
theorem MapI.empty {kd : IntKind} {b cl : Nat} {w : World} (h : w.heap[b]? = some (.map #[] cl)) : MapI kd (fun _ => none) b w := ⟨#[], cl, h, fun e he => by simp at he, fun _ => rfl⟩
theorem MapI.lt {kd : IntKind} {f : Int → Option Value} {b : Nat} {w : World} (h : MapI kd f b w) : b < w.heap.size := by
  obtain ⟨es, cl, h1, _⟩ := h; exact blk_lt h1
theorem MapI.congr {kd : IntKind} {f g : Int → Option Value} {b : Nat} {w : World} (h : MapI kd f b w) (e : ∀ n, f n = g n) : MapI kd g b w := by
  obtain ⟨es, cl, h1, h2, h3⟩ := h; exact ⟨es, cl, h1, h2, fun n => (h3 n).trans (e n)⟩

section
variable {P : Program} {N K : Nat} {l : Env} {w : World} {o : Oper}

theorem checkKey_int {kt : TypeId} {kd : IntKind} (hk : P.underlying kt = some (.int kd)) (e : Bool) (n : Nat) (x : Int) (w : World) : (Instr.checkKey e (n + 1) kt (.int kd x)).run P w = .ok () w := by
  unfold Instr.checkKey
  simp [run_underlying hk]

theorem findKey_run {w : World} {kt : TypeId} {d : TypeDesc} {k : Value} {l : List MapEntry} {a : Option (Nat × Value)} (hd : P.underlying kt = some d) (h : Instr.findNow d k l 0 = some a) : (Instr.findKey kt k l).run P w = .ok a w := by
  simp [Instr.findKey, run_underlying hd, Result.andThen, h]

theorem Yield.lookupInt {t kt et : TypeId} {x y : Operand} {b : Nat} {kd : IntKind} {n : Int} {f : Int → Option Value} {z : Value} (hop : o.op = .lookup t x y false) (hx : evalE l x = some (.map (some b))) (hy : evalE l y = some (.int kd n)) (ht : P.underlying t = some (.map kt et)) (hk : P.underlying kt = some (.int kd))
    (hz : ∀ w, (zeroValue et).run P w = .ok z w) (hm : MapI kd f b w) : Yield P N o l w ((f n).getD z) := by
  obtain ⟨es, cl, h1, h2, h3⟩ := hm
  intro ac q hs
  simp only [execOp, hop]
  rw [hs.eval hx, hs.eval hy]
  refine run_v ?_
  have hg : (getObj b).run P (w.drewN q) = .ok (.map es cl) (w.drewN q) := by
    simp [getObj, Sem.run, h1]
  rw [← h3 n]
  rcases findNow_int n es.toList 0 h2 with ⟨h4, h5⟩ | ⟨j, v, h4, h5, _⟩
  · simp [Instr.lookup, run_underlying ht, hg, checkKey_int hk, findKey_run hk h5, h4, hz _]
  · simp [Instr.lookup, run_underlying ht, hg, checkKey_int hk, findKey_run hk h5, h4]

theorem Yield.lookupInt2 {t kt et : TypeId} {x y : Operand} {b : Nat} {kd : IntKind} {n : Int} {f : Int → Option Value} {z : Value} (hop : o.op = .lookup t x y true) (hx : evalE l x = some (.map (some b))) (hy : evalE l y = some (.int kd n)) (ht : P.underlying t = some (.map kt et)) (hk : P.underlying kt = some (.int kd))
    (hz : ∀ w, (zeroValue et).run P w = .ok z w) (hm : MapI kd f b w) : Yield P N o l w (.tuple #[(f n).getD z, .bool (f n).isSome]) := by
  obtain ⟨es, cl, h1, h2, h3⟩ := hm
  intro ac q hs
  simp only [execOp, hop]
  rw [hs.eval hx, hs.eval hy]
  refine run_v ?_
  have hg : (getObj b).run P (w.drewN q) = .ok (.map es cl) (w.drewN q) := by
    simp [getObj, Sem.run, h1]
  rw [← h3 n]
  rcases findNow_int n es.toList 0 h2 with ⟨h4, h5⟩ | ⟨j, v, h4, h5, _⟩
  · simp [Instr.lookup, run_underlying ht, hg, checkKey_int hk, findKey_run hk h5, h4, hz _]
  · simp [Instr.lookup, run_underlying ht, hg, checkKey_int hk, findKey_run hk h5, h4]

def updI (f : Int → Option Value) (n : Int) (v : Value) : Int → Option Value := fun m => if m = n then some v else f m

theorem Eff.mapUpdateInt {t kt et : TypeId} {x y z : Operand} {b : Nat} {kd : IntKind} {n : Int} {f : Int → Option Value} {v : Value} (hop : o.op = .mapUpdate t x y z) (hx : evalE l x = some (.map (some b))) (hy : evalE l y = some (.int kd n)) (hz : evalE l z = some v)
    (ht : P.underlying t = some (.map kt et)) (hk : P.underlying kt = some (.int kd)) (hm : MapI kd f b w) :
    Eff P N o l (w = ·) fun _ w1 => Only (· = b) w w1 ∧ MapI kd (updI f n v) b w1 := by
  obtain ⟨es, cl, h1, h2, h3⟩ := hm
  rintro _ rfl a q hs
  have hblt := blk_lt h1
  have hg : (getObj b).run P (w.drewN q) = .ok (.map es cl) (w.drewN q) := by
    simp [getObj, Sem.run, h1]
  have hs' : ∀ o', (setObj b o').run P (w.drewN q) = .ok () (({ w with heap := w.heap.setIfInBounds b o' } : World).drewN q) := fun o' => by
    simp [setObj, Sem.run, h1]; rfl
  have hob : ∀ o', Only (· = b) w ({ w with heap := w.heap.setIfInBounds b o' } : World) := fun o' => ⟨rfl, rfl, rfl, rfl, by simp, fun k _ hn => by
    show (w.heap.setIfInBounds b o')[k]? = _
    rw [Array.getElem?_setIfInBounds_ne (Ne.symm hn)]⟩
  have hnew : ∀ o', ({ w with heap := w.heap.setIfInBounds b o' } : World).heap[b]? = some o' := fun o' => by show (w.heap.setIfInBounds b o')[b]? = _; simp [hblt]
  rcases findNow_int n es.toList 0 h2 with ⟨h4, h5⟩ | ⟨j, u, h4, h5, ⟨e, he, hek⟩, h7⟩
  · refine .inr (.inl ⟨_, q, Nat.le_refl _, ?_, hob (.map (es.push ⟨.int kd n, v, cl⟩) (cl + 1)), _, _, hnew _, ?_, fun m => ?_⟩)
    · simp only [execOp, hop]
      rw [hs.eval hx, hs.eval hy, hs.eval hz]
      simp [Instr.mapUpdate, run_underlying ht, hg, checkKey_int hk, findKey_run hk h5, hs']
    · intro x hx'
      simp only [Array.toList_push, List.mem_append, List.mem_singleton] at hx'
      rcases hx' with hx' | rfl
      · exact h2 x hx'
      · exact ⟨n, rfl⟩
    · rw [Array.toList_push, lk_append h2 h4, h3 m]; rfl
  · have hkey : ((es[j]?).map (·.key)).getD (.int kd n) = .int kd n := by
      have : es[j]? = some e := by simpa using he
      simp [this, hek]
    have hstay : (Instr.keyThatStays (.int kd n) (.int kd n)).run P (w.drewN q) = .ok (.int kd n) (w.drewN q) := by
      simp [Instr.keyThatStays, Instr.sameBits]
    refine .inr (.inl ⟨_, q, Nat.le_refl _, ?_, hob (.map (es.modify j fun e => { e with key := .int kd n, val := v }) cl), _, _, hnew _, ?_, fun m => ?_⟩)
    · simp only [execOp, hop]
      rw [hs.eval hx, hs.eval hy, hs.eval hz]
      simp [Instr.mapUpdate, run_underlying ht, hg, checkKey_int hk, findKey_run hk h5, hkey, hstay, hs']
    · intro x hx'
      rw [Array.toList_modify] at hx'
      obtain ⟨i, hi, rfl⟩ := List.getElem_of_mem hx'
      rw [List.getElem_modify]
      split
      · exact ⟨n, rfl⟩
      · exact h2 _ (List.getElem_mem _)
    · rw [Array.toList_modify, h7 _ v (fun e _ => ⟨rfl, rfl⟩) m, h3 m]; rfl
end
end Go.Lv
namespace Go.Lv
def MpI (B : Nat) (kd : IntKind) (f : Int → Option Value) (v : Value) (w : World) : Prop := ∃ b, v = .map (some b) ∧ B ≤ b ∧ MapI kd f b w
theorem MpI.stable (B : Nat) (kd : IntKind) (f : Int → Option Value) : Stable (MpI B kd f) := fun _ _ _ h ⟨b, h1, h2, h3⟩ => ⟨b, h1, h2, h3.ext h⟩
theorem MpI.le {B B' : Nat} {kd : IntKind} {f : Int → Option Value} {v : Value} {w : World} (h : MpI B kd f v w) (hB : B' ≤ B) : MpI B' kd f v w := by
  obtain ⟨b, h1, h2, h3⟩ := h; exact ⟨b, h1, Nat.le_trans hB h2, h3⟩
theorem Eff.callsMp {P : Program} {N : Nat} {o : Oper} {l : Env} {w : World} {kd : IntKind} {f : Int → Option Value} (B : Nat) (hB : B ≤ w.heap.size) (h : Eff P N o l (w = ·) fun v w1 => Ext w w1 ∧ MpI w.heap.size kd f v w1) : Eff P N o l (w = ·) fun u w1 => Ext w w1 ∧ MpI B kd f u w1 ∧ Fresh true u w w1 :=
  h.mono fun _ _ ⟨h1, h2⟩ => ⟨h1, h2.le hB, fun _ b hb => by
    obtain ⟨q, rfl, h3, h4⟩ := h2
    simp only [vblk, Option.some.injEq] at hb
    subst hb
    exact ⟨h3, h4.lt⟩⟩
end Go.Lv
