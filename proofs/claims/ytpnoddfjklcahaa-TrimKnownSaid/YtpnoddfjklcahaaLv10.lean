import Derived.Test.YtpnoddfjklcahaaLv9
set_option linter.all false
namespace Go.Lv
open Go.RowKit
section
variable {P : Program} {N K : Nat} {ops : Array Oper} {Q : Exit → Act → World → Prop} {l : Env} {w : World} {o : Oper}

theorem Nm.postW {fn : Func} {R : Value → World → Prop} {rs : List ResultVar} {vs : List Value} (hr : fn.results = rs.toArray) (hx : resW P l w rs vs) (h : R (resV vs) w) : Nm N K (Post P fn K R) l w :=
  fun _ n hk hs => ⟨hs.defers, resV vs, resultsW_run hs n hr hx, resV vs, w, n, hk, rfl, rfl, h⟩

/-- a contract's value in other words -/
theorem Fc.val {P : Program} {f : FuncId} {args : Array Value} {w : World} {x y : Value} (h : Fc P f args w fun v w' => v = x ∧ w = w') (e : x = y) : Fc P f args w fun v w' => v = y ∧ w = w' := by rw [← e]; exact h
theorem Fc.valE {P : Program} {f : FuncId} {args : Array Value} {w : World} {x y : Value} (h : Fc P f args w fun v w' => Ext w w' ∧ v = x) (e : x = y) : Fc P f args w fun v w' => Ext w w' ∧ v = y := by rw [← e]; exact h
theorem Fc.quiet {P : Program} {f : FuncId} {args : Array Value} {w : World} {x : Value} (h : Fc P f args w fun v w' => v = x ∧ w = w') : Fc P f args w fun v w' => Ext w w' ∧ v = x := h.mono fun _ _ ⟨h1, h2⟩ => ⟨h2 ▸ Ext.refl _, h1⟩

/-! ### shapes of values -/
def Sl {α : Type} (E : Enc α) (l : List α) (v : Value) (w : World) : Prop := ∃ A c, v = .slice A l.length c ∧ l.length ≤ c ∧ Rd E w A l
def Lg {α : Type} (E : Enc α) (l : List α) (v : Value) (w : World) : Prop := ∃ A c, v = .agg #[.slice A l.length c] ∧ l.length ≤ c ∧ Rd E w A l
theorem Sl.stable {α : Type} (E : Enc α) (l : List α) : Stable (Sl E l) := fun _ _ _ h ⟨A, c, h1, h2, h3⟩ => ⟨A, c, h1, h2, h3.ext h⟩
theorem Lg.stable {α : Type} (E : Enc α) (l : List α) : Stable (Lg E l) := fun _ _ _ h ⟨A, c, h1, h2, h3⟩ => ⟨A, c, h1, h2, h3.ext h⟩

/-- a row of one's own, newer than so many blocks -/
def Nw {α : Type} (B : Nat) (E : Enc α) (e : TypeId) (l : List α) (v : Value) (w : World) : Prop := Own E w e v l ∧ ∀ b, v.ownBlock = some b → B ≤ b
theorem Nw.ext {α : Type} {B : Nat} {E : Enc α} {e : TypeId} {l : List α} {v : Value} {w w' : World} (h : Nw B E e l v w) (ho : Ext w w') : Nw B E e l v w' := ⟨h.1.ext ho, h.2⟩
theorem Nw.stable {α : Type} (B : Nat) (E : Enc α) (e : TypeId) (l : List α) : Stable (Nw B E e l) := fun _ _ _ h h1 => h1.ext h
theorem Nw.nil {α : Type} (B : Nat) (E : Enc α) (e : TypeId) (w : World) : Nw B E e [] (.slice none 0 0) w := ⟨Own.nil E w e, fun b h => by simp [Value.ownBlock] at h⟩
theorem Nw.sl {α : Type} {B : Nat} {E : Enc α} {e : TypeId} {l : List α} {v : Value} {w : World} (h : Nw B E e l v w) : Sl E l v w := h.1.rd
theorem Nw.le {α : Type} {B B' : Nat} {E : Enc α} {e : TypeId} {l : List α} {v : Value} {w : World} (h : Nw B E e l v w) (hB : B' ≤ B) : Nw B' E e l v w := ⟨h.1, fun b hb => Nat.le_trans hB (h.2 b hb)⟩
theorem Nw.only {α : Type} {B : Nat} {E : Enc α} {e : TypeId} {l : List α} {v : Value} {S : Nat → Prop} {w w' : World} (h : Nw B E e l v w) (ho : Only S w w') (hn : ∀ b, v.ownBlock = some b → ¬ S b) : Nw B E e l v w' := ⟨Row.only h.1 ho hn, h.2⟩
theorem Own.only {α : Type} {E : Enc α} {e : TypeId} {l : List α} {v : Value} {S : Nat → Prop} {w w' : World} (h : Own E w e v l) (ho : Only S w w') (hn : ∀ b, v.ownBlock = some b → ¬ S b) : Own E w' e v l := Row.only h ho hn
theorem Own.lt {α : Type} {E : Enc α} {e : TypeId} {l : List α} {v : Value} {w : World} (h : Own E w e v l) {b : Nat} (hb : v.ownBlock = some b) : b < w.heap.size := Row.lt h hb

/-- append to a row of one's own -/
theorem Eff.push {α : Type} {E : Enc α} {w0 : World} {B : Nat} {t tx e e' : TypeId} {s x : Operand} {i : TypeInfo} {z : Value} {bytes : Nat} {v : Value} {A : Option Addr} {m c : Nat} {xs ys : List α} (hop : o.op = .call { callee := .builtin .append, args := #[s, x], argTypes := #[t, tx] })
    (hs' : evalE l s = some v) (hx : evalE l x = some (.slice A m c)) (hm : ys.length = m) (ht : P.underlying t = some (.slice e)) (hk : P.underlying tx = some (.slice e')) (hi : P.info? e = some i) (hz : i.zero = some z) (hsize : i.size = E.sz) (hby : i.bytes = bytes) (hzs : z.cells.size = E.sz)
    (hO : Ext w0 w) (hB : B ≤ w.heap.size) (hB0 : w0.heap.size ≤ B) (hr : Nw B E e xs v w) (hsrc : Rd E w A ys) (hbp : Nat.blt 0 bytes = true) (hbound : (xs.length + ys.length) * bytes ≤ 140737488355328) :
    Eff P N o l (w = ·) fun v' w1 => Ext w0 w1 ∧ Nw B E e (xs ++ ys) v' w1 ∧ Only (fun k => v.ownBlock = some k) w w1 := by
  subst hm
  have hle : xs.length + ys.length ≤ (xs.length + ys.length) * bytes := Nat.le_mul_of_pos_right _ (by simpa [Nat.blt_eq] using hbp)
  refine (Eff.append hop hs' hx ht hi hz hsize hby hzs (C := (w = ·)) (xs := E.all xs) (news := E.all ys) (n := xs.length) (m := ys.length) (by rintro _ rfl; exact hr.1)
    (by rintro _ rfl; exact src_cells hk (E.all_len ys) E.pos hsrc (E.all_one ys)) (by simp only [maxLen]; omega) hbound).mono ?_
  rintro v' w1 ⟨_, rfl, h1, h2, h3, _⟩
  have hext : Ext w0 w1 := hO.trans h2 fun k hk hs => by have := hr.2 k hs; omega
  refine ⟨hext, ⟨?_, fun b hb => ?_⟩, h2⟩
  · unfold Own
    rw [List.length_append, E.all_append]; exact h1
  · rcases h3 with h | h
    · rw [h] at hb; exact hr.2 b hb
    · rw [h] at hb; cases hb; exact hB

/-- the same, of the world behind it alone -/
theorem Eff.pushO {α : Type} {E : Enc α} {B : Nat} {t tx e e' : TypeId} {s x : Operand} {i : TypeInfo} {z : Value} {bytes : Nat} {v : Value} {A : Option Addr} {m c : Nat} {xs ys : List α} (hop : o.op = .call { callee := .builtin .append, args := #[s, x], argTypes := #[t, tx] })
    (hs' : evalE l s = some v) (hx : evalE l x = some (.slice A m c)) (hm : ys.length = m) (ht : P.underlying t = some (.slice e)) (hk : P.underlying tx = some (.slice e')) (hi : P.info? e = some i) (hz : i.zero = some z) (hsize : i.size = E.sz) (hby : i.bytes = bytes) (hzs : z.cells.size = E.sz)
    (hB : B ≤ w.heap.size) (hr : Nw B E e xs v w) (hsrc : Rd E w A ys) (hbp : Nat.blt 0 bytes = true) (hbound : (xs.length + ys.length) * bytes ≤ 140737488355328) :
    Eff P N o l (w = ·) fun v' w1 => Nw B E e (xs ++ ys) v' w1 ∧ Only (fun k => v.ownBlock = some k) w w1 := by
  subst hm
  have hle : xs.length + ys.length ≤ (xs.length + ys.length) * bytes := Nat.le_mul_of_pos_right _ (by simpa [Nat.blt_eq] using hbp)
  refine (Eff.append hop hs' hx ht hi hz hsize hby hzs (C := (w = ·)) (xs := E.all xs) (news := E.all ys) (n := xs.length) (m := ys.length) (by rintro _ rfl; exact hr.1)
    (by rintro _ rfl; exact src_cells hk (E.all_len ys) E.pos hsrc (E.all_one ys)) (by simp only [maxLen]; omega) hbound).mono ?_
  rintro v' w1 ⟨_, rfl, h1, h2, h3, _⟩
  refine ⟨⟨?_, fun b hb => ?_⟩, h2⟩
  · unfold Own
    rw [List.length_append, E.all_append]; exact h1
  · rcases h3 with h | h
    · rw [h] at hb; exact hr.2 b hb
    · rw [h] at hb; cases hb; exact hB

theorem Eff.storeCell {t : TypeId} {x y : Operand} {b i : Nat} {v : Value} {cs : List Value} {T : TypeId} (hop : o.op = .store t x y) (hx : evalE l x = some (.pointer (some ⟨b, i, none⟩))) (hy : evalE l y = some v) (hz : ∀ w, (sizeOf t).run P w = .ok 1 w) (hv : v.oneCell' = true)
    (hb : w.heap[b]? = some (.cells cs.toArray T (0, 0))) (hi : Nat.blt i cs.length = true) {cs' : List Value} (hc : cs.set i v = cs') :
    Eff P N o l (w = ·) fun _ w1 => Only (· = b) w w1 ∧ w1.heap[b]? = some (.cells cs'.toArray T (0, 0)) := by
  subst hc
  refine (Eff.store hop hx hy hz hv (C := (w = ·)) (by rintro _ rfl; exact ⟨_, _, hb, by simpa using hi⟩)).mono ?_
  rintro _ _ ⟨_, rfl, rfl⟩
  refine ⟨Only.setCell _ ⟨b, i, none⟩ v, ?_⟩
  have := setCell_get hb i v
  simpa using this

theorem Eff.storeBlk {t : TypeId} {x y : Operand} {b i : Nat} {vs cs : List Value} {T : TypeId} {q : Nat} (hop : o.op = .store t x y) (hx : evalE l x = some (.pointer (some ⟨b, i, none⟩))) (hy : evalE l y = some (.agg vs.toArray)) (hz : ∀ w, (sizeOf t).run P w = .ok q w) (hq : vs.length = q) (hv : ∀ v ∈ vs, v.oneCell' = true)
    (hb : w.heap[b]? = some (.cells cs.toArray T (0, 0))) (hi : Nat.ble (i + vs.length) cs.length = true) {cs' : List Value} (hc : cs.take i ++ vs ++ cs.drop (i + vs.length) = cs') :
    Eff P N o l (w = ·) fun _ w1 => Only (· = b) w w1 ∧ w1.heap[b]? = some (.cells cs'.toArray T (0, 0)) := by
  subst hc
  subst hq
  have hi' := Nat.le_of_ble_eq_true hi
  refine (Eff.storeAgg hop hx hy hz hv (C := (w = ·)) (by rintro _ rfl; exact ⟨_, _, hb, by simpa using hi'⟩)).mono ?_
  rintro _ _ ⟨_, cs2, T2, rfl, hb2, _, rfl⟩
  have e : some (Obj.cells cs2 T2 (0, 0)) = some (Obj.cells cs.toArray T (0, 0)) := hb2.symm.trans hb
  simp only [Option.some.injEq, Obj.cells.injEq] at e
  obtain ⟨rfl, rfl, _⟩ := e
  exact ⟨Only.setRow _ _ _, setRow_heap _ b _ _ _ _ hb⟩

/-- new memory in a region that draws -/
theorem Eff.newPtr {cs : Array Value} {T : TypeId} (B : Nat) (hB : B ≤ w.heap.size) (h : Eff P N o l (w = ·) fun u w1 => ∃ w' b, w = w' ∧ b = w'.heap.size ∧ u = .pointer (some ⟨b, 0, none⟩) ∧ w1 = w'.alloc (.cells cs T)) :
    Eff P N o l (w = ·) fun u w1 => Ext w w1 ∧ (∃ b, u = .pointer (some ⟨b, 0, none⟩) ∧ w1.heap[b]? = some (.cells cs T (0, 0)) ∧ B ≤ b) ∧ Fresh true u w w1 := by
  refine h.mono ?_
  rintro _ _ ⟨_, _, rfl, rfl, rfl, rfl⟩
  refine ⟨Ext.alloc _ _, ⟨_, rfl, new_get _ _, hB⟩, fun _ b hb => ?_⟩
  simp only [vblk, Option.some.injEq] at hb
  subst hb
  exact ⟨Nat.le_refl _, by rw [alloc_size]; omega⟩
theorem Eff.newSlice {cs : Array Value} {T : TypeId} {n : Nat} (B : Nat) (hB : B ≤ w.heap.size) (h : Eff P N o l (w = ·) fun u w1 => ∃ w' b, w = w' ∧ b = w'.heap.size ∧ u = .slice (some ⟨b, 0, none⟩) n n ∧ w1 = w'.alloc (.cells cs T)) :
    Eff P N o l (w = ·) fun u w1 => Ext w w1 ∧ (∃ b, u = .slice (some ⟨b, 0, none⟩) n n ∧ w1.heap[b]? = some (.cells cs T (0, 0)) ∧ B ≤ b) ∧ Fresh true u w w1 := by
  refine h.mono ?_
  rintro _ _ ⟨_, _, rfl, rfl, rfl, rfl⟩
  refine ⟨Ext.alloc _ _, ⟨_, rfl, new_get _ _, hB⟩, fun _ b hb => ?_⟩
  simp only [vblk, Option.some.injEq] at hb
  subst hb
  exact ⟨Nat.le_refl _, by rw [alloc_size]; omega⟩
theorem Stable.blk {mk : Nat → Value} {cs : Array Value} {T : TypeId} {B : Nat} : Stable fun u w1 => ∃ b, u = mk b ∧ w1.heap[b]? = some (.cells cs T (0, 0)) ∧ B ≤ b := fun _ _ _ h ⟨b, h1, h2, h3⟩ => ⟨b, h1, h.get h2, h3⟩
end
end Go.Lv
