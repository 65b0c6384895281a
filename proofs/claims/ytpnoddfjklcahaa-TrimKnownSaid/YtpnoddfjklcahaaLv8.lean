import Derived.Test.YtpnoddfjklcahaaLv7
import Derived.KernelRfl
set_option linter.all false
namespace Go.Lv
open Go.RowKit
section
variable {P : Program} {N K : Nat} {Q : Exit → Act → World → Prop} {l : Env} {w : World} {o : Oper}

/-! ### results that lie in memory -/
def resW (P : Program) (l : Env) (w : World) : List ResultVar → List Value → Prop
  | [], [] => True
  | .tmp t :: r, v :: vs => l.get t = some v ∧ resW P l w r vs
  | .cell t T :: r, v :: vs => (∃ ad, l.get t = some (.pointer (some ad)) ∧ ∀ n, (loadVar T ad).run P (w.drewN n) = .ok v (w.drewN n)) ∧ resW P l w r vs
  | _, _ => False

theorem resW_run {a : Act} (h : St N l a) (n : Nat) : ∀ {rs : List ResultVar} {vs : List Value}, resW P l w rs vs → (rs.mapM (resF a.tmps)).run P (w.drewN n) = .ok vs (w.drewN n)
  | [], [], _ => by simp
  | .tmp t :: r, v :: vs, ⟨h1, h2⟩ => by
    have ih := resW_run h n h2
    simp only [List.mapM_cons, resF, Sem.run_bind, Sem.run_pure, Result.andThen_ok, h.getD h1]
    rw [ih]; rfl
  | .cell t T :: r, v :: vs, ⟨⟨ad, h1, h3⟩, h2⟩ => by
    have ih := resW_run h n h2
    simp only [List.mapM_cons, resF, Sem.run_bind, h.getD h1, asAddr, Sem.run_pure, Result.andThen_ok, h3 n]
    rw [ih]; rfl

theorem resultsW_run {fn : Func} {a : Act} (h : St N l a) (n : Nat) {rs : List ResultVar} {vs : List Value} (hr : fn.results = rs.toArray) (hx : resW P l w rs vs) : (results fn a.tmps).run P (w.drewN n) = .ok (resV vs) (w.drewN n) := by
  have := resW_run (P := P) h n hx
  have e0 : results fn a.tmps = (do
      let vs ← fn.results.mapM (resF a.tmps)
      pure (if h : vs.size = 1 then vs[0] else .tuple vs) : Sem Value) := by
    unfold results
    congr 1
  rw [e0, hr]
  simp only [Sem.run_bind]
  have e : (rs.toArray.mapM (resF a.tmps)).run P (w.drewN n) = .ok vs.toArray (w.drewN n) := by
    rw [List.mapM_toArray]
    simp only [Sem.run_map, this]; rfl
  rw [e]
  simp only [Result.andThen_ok, Sem.run_pure]
  congr 1
  match vs with
  | [] => rfl
  | [v] => rfl
  | v :: u :: r => simp [resV]

theorem W.ret_postW {fn : Func} {R : Value → World → Prop} {rs : List ResultVar} {vs : List Value} (hQ : ∀ a w, Post P fn K R .ret a w → Q .ret a w) (hr : fn.results = rs.toArray) (hx : resW P l w rs vs) (h : R (resV vs) w) : W P N K .ret Q l w :=
  W.ret fun _ n hk hs => hQ _ _ ⟨hs.defers, resV vs, resultsW_run hs n hr hx, resV vs, w, n, hk, rfl, rfl, h⟩
theorem resW_tmp {t : Nat} {v : Value} {r : List ResultVar} {vs : List Value} (h : l.get t = some v) (hr : resW P l w r vs) : resW P l w (.tmp t :: r) (v :: vs) := ⟨h, hr⟩
theorem resW_nil : resW P l w [] [] := trivial
theorem loadVar_agg {T : TypeId} {ad : Addr} {cs : List Value} (ha : ∀ w, (isAgg T).run P w = .ok true w) (hz : ∀ w, (sizeOf T).run P w = .ok cs.length w) (hc : ∀ j v, cs[j]? = some v → w.cell? (ad.add j) = some v) (n : Nat) :
    (loadVar T ad).run P (w.drewN n) = .ok (.agg cs.toArray) (w.drewN n) := by
  have := run_loadCells_list (P := P) (w := w.drewN n) ad cs hc
  simp [loadVar, ha _, hz _, this]
theorem loadVar_one {T : TypeId} {ad : Addr} {v : Value} (ha : ∀ w, (isAgg T).run P w = .ok false w) (hc : w.cell? ad = some v) (n : Nat) : (loadVar T ad).run P (w.drewN n) = .ok v (w.drewN n) := by
  have hc' : (w.drewN n).cell? ad = some v := hc
  simp [loadVar, ha _, hc']
theorem resW_cell {t : Nat} {T : TypeId} {ad : Addr} {v : Value} {r : List ResultVar} {vs : List Value} (h : l.get t = some (.pointer (some ad))) (hl : ∀ n, (loadVar T ad).run P (w.drewN n) = .ok v (w.drewN n)) (hr : resW P l w r vs) : resW P l w (.cell t T :: r) (v :: vs) := ⟨⟨ad, h, hl⟩, hr⟩
end

/-! ### rows of data -/

/-- how a datum lies in so many cells -/
structure Enc (α : Type) where
  sz : Nat
  enc : α → List Value
  len : ∀ x, (enc x).length = sz
  pos : 0 < sz
  one : ∀ x, ∀ v ∈ enc x, v.oneCell' = true

def Enc.all {α : Type} (E : Enc α) (l : List α) : List Value := l.flatMap E.enc
theorem Enc.all_len {α : Type} (E : Enc α) (l : List α) : (E.all l).length = l.length * E.sz := by
  induction l with
  | nil => simp [Enc.all]
  | cons x r ih =>
    have e : E.all (x :: r) = E.enc x ++ E.all r := rfl
    rw [e, List.length_append, ih, E.len, List.length_cons, Nat.add_mul]; omega
theorem Enc.all_append {α : Type} (E : Enc α) (l r : List α) : E.all (l ++ r) = E.all l ++ E.all r := by simp [Enc.all]
theorem Enc.all_one {α : Type} (E : Enc α) (l : List α) : ∀ v ∈ E.all l, v.oneCell' = true := by
  intro v hv
  obtain ⟨x, _, h⟩ := List.mem_flatMap.1 hv
  exact E.one x v h
theorem Enc.all_nil {α : Type} (E : Enc α) : E.all [] = [] := rfl
theorem Enc.all_single {α : Type} (E : Enc α) (x : α) : E.all [x] = E.enc x := by simp [Enc.all]
theorem Enc.all_at {α : Type} (E : Enc α) : ∀ (l : List α) (i : Nat) (x : α), l[i]? = some x → ∀ j v, (E.enc x)[j]? = some v → (E.all l)[i * E.sz + j]? = some v
  | [], i, x, h, _, _, _ => by simp at h
  | y :: r, 0, x, h, j, v, hj => by
    simp only [List.getElem?_cons_zero, Option.some.injEq] at h
    subst h
    have e : E.all (y :: r) = E.enc y ++ E.all r := rfl
    have hlt : j < (E.enc y).length := (List.getElem?_eq_some_iff.1 hj).1
    rw [e, Nat.zero_mul, Nat.zero_add, List.getElem?_append_left hlt]; exact hj
  | y :: r, i + 1, x, h, j, v, hj => by
    simp only [List.getElem?_cons_succ] at h
    have e : E.all (y :: r) = E.enc y ++ E.all r := rfl
    have ih := E.all_at r i x h j v hj
    have hl := E.len y
    rw [e, Nat.add_mul, Nat.one_mul, List.getElem?_append_right (by rw [hl]; omega), hl]
    have : (i * E.sz + E.sz + j) - E.sz = i * E.sz + j := by omega
    rw [this]; exact ih
theorem Enc.all_drop {α : Type} (E : Enc α) : ∀ (l : List α) (i : Nat), E.all (l.drop i) = (E.all l).drop (i * E.sz)
  | l, 0 => by simp
  | [], i + 1 => by simp [Enc.all]
  | y :: r, i + 1 => by
    have e : E.all (y :: r) = E.enc y ++ E.all r := rfl
    rw [List.drop_succ_cons, E.all_drop r i, e, Nat.add_mul, Nat.one_mul]
    rw [show i * E.sz + E.sz = (E.enc y).length + i * E.sz by rw [E.len]; omega, ← List.drop_drop]
    simp
theorem Enc.all_take {α : Type} (E : Enc α) : ∀ (l : List α) (i : Nat), E.all (l.take i) = (E.all l).take (i * E.sz)
  | l, 0 => by simp [Enc.all]
  | [], i + 1 => by simp [Enc.all]
  | y :: r, i + 1 => by
    have e : E.all (y :: r) = E.enc y ++ E.all r := rfl
    have e2 : E.all (y :: r.take i) = E.enc y ++ E.all (r.take i) := rfl
    have hl := E.len y
    have h1 : (E.enc y).take (i * E.sz + E.sz) = E.enc y := List.take_of_length_le (by rw [hl]; omega)
    have h2 : i * E.sz + E.sz - (E.enc y).length = i * E.sz := by rw [hl]; omega
    rw [List.take_succ_cons, e2, E.all_take r i, e, Nat.add_mul, Nat.one_mul, List.take_append, h1, h2]

/-- a slice that reads as a list -/
def Rd {α : Type} (E : Enc α) (w : World) (A : Option Addr) (l : List α) : Prop := Cells w A (E.all l)
theorem Rd.ext {α : Type} {E : Enc α} {w w' : World} {A : Option Addr} {l : List α} (h : Rd E w A l) (ho : Ext w w') : Rd E w' A l := Cells.ext h ho
theorem Rd.only {α : Type} {E : Enc α} {S : Nat → Prop} {w w' : World} {A : Option Addr} {l : List α} (h : Rd E w A l) (ho : Only S w w') (hn : ∀ ad, A = some ad → ¬ S ad.block) : Rd E w' A l := Cells.only h ho fun ad hA _ => hn ad hA
theorem Rd.addr {α : Type} {E : Enc α} {w : World} {A : Option Addr} {l : List α} (h : Rd E w A l) {i : Nat} (hi : i < l.length) : ∃ ad, A = some ad := by
  have hl := E.all_len l
  have hp := E.pos
  have : 0 < (E.all l).length := by
    rw [hl]; exact Nat.mul_pos (by omega) hp
  obtain ⟨ad, hA, _⟩ := h 0 (E.all l)[0] (by simp [List.getElem?_eq_getElem this])
  exact ⟨ad, hA⟩
theorem Rd.at {α : Type} {E : Enc α} {w : World} {ad : Addr} {l : List α} (h : Rd E w (some ad) l) {i : Nat} {x : α} (hx : l[i]? = some x) : ∀ j v, (E.enc x)[j]? = some v → w.cell? ((ad.add (i * E.sz)).add j) = some v := by
  intro j v hj
  rw [add_add]
  exact Cells.some h _ v (E.all_at l i x hx j v hj)
theorem Rd.nil {α : Type} (E : Enc α) (w : World) (A : Option Addr) : Rd E w A [] := Cells.nil w A
theorem Rd.drop {α : Type} {E : Enc α} {w : World} {A : Option Addr} {l : List α} (h : Rd E w A l) (n : Nat) : Rd E w (A.map (·.add (n * E.sz))) (l.drop n) := by
  unfold Rd; rw [E.all_drop]; exact Cells.drop h _
theorem Rd.take {α : Type} {E : Enc α} {w : World} {A : Option Addr} {l : List α} (h : Rd E w A l) (n : Nat) : Rd E w A (l.take n) := by
  unfold Rd; rw [E.all_take]; exact Cells.take h _

/-- a row of one's own that reads as a list -/
def Own {α : Type} (E : Enc α) (w : World) (e : TypeId) (v : Value) (l : List α) : Prop := Row w e E.sz v l.length (E.all l)
theorem Own.ext {α : Type} {E : Enc α} {w w' : World} {e : TypeId} {v : Value} {l : List α} (h : Own E w e v l) (ho : Ext w w') : Own E w' e v l := Row.ext h ho
theorem Own.nil {α : Type} (E : Enc α) (w : World) (e : TypeId) : Own E w e (.slice none 0 0) [] := Row.nil w e E.sz
theorem Own.rd {α : Type} {E : Enc α} {w : World} {e : TypeId} {v : Value} {l : List α} (h : Own E w e v l) : ∃ A c, v = .slice A l.length c ∧ l.length ≤ c ∧ Rd E w A l := Row.slice h
/-- a new block holds just this list -/
theorem Own.fresh {α : Type} {E : Enc α} {w : World} {e : TypeId} {b : Nat} {cs : Array Value} {l : List α} (h : w.heap[b]? = some (.cells cs e (0, 0))) (hc : cs.toList = E.all l) (hm : l.length ≤ maxLen) : Own E w e (.slice (some ⟨b, 0, none⟩) l.length l.length) l := by
  refine ⟨E.all_len l, .inr ⟨b, 0, l.length, cs, rfl, h, Nat.le_refl _, hm, ?_, ?_⟩⟩
  · rw [Nat.zero_add, ← E.all_len l, ← hc]; simp
  · rw [List.drop_zero, hc, ← E.all_len l, List.take_length]

theorem Rd.at0 {α : Type} {E : Enc α} {w : World} {ad : Addr} {l : List α} (h : Rd E w (some ad) l) {i : Nat} {x : α} {v : Value} (hx : l[i]? = some x) (hv : (E.enc x)[0]? = some v) : w.cell? (ad.add (i * E.sz)) = some v := by
  have := h.at hx 0 v hv
  simpa [Addr.add] using this
theorem blk_rd {α : Type} {E : Enc α} {w : World} {b : Nat} {cs : Array Value} {T : TypeId} {fr : Nat × Nat} {l : List α} (h : w.heap[b]? = some (.cells cs T fr)) (hc : cs.toList = E.all l) : Rd E w (some ⟨b, 0, none⟩) l := by
  intro j u hj
  refine ⟨_, rfl, ?_⟩
  have hadd : (⟨b, 0, none⟩ : Addr).add j = ⟨b, j, none⟩ := by unfold Addr.add; split <;> simp_all
  rw [hadd]
  refine cell_get h ?_
  rw [← hc] at hj
  simpa using hj
theorem upto_step {α : Type} {l : List α} {p : α → Prop} {i : Nat} {x : α} (h : ∀ j y, j < i → l[j]? = some y → p y) (hx : l[i]? = some x) (hp : p x) : ∀ j y, j < i + 1 → l[j]? = some y → p y := by
  intro j y hj hy
  rcases Nat.lt_or_ge j i with h1 | h1
  · exact h j y h1 hy
  · have : j = i := by omega
    subst this
    rw [hx] at hy
    cases hy
    exact hp
theorem getD_some {α : Type} {l : List α} {i : Nat} (h : i < l.length) : ∃ x, l[i]? = some x := ⟨l[i], List.getElem?_eq_getElem h⟩
theorem Yield.indexNat {P : Program} {N : Nat} {o : Oper} {l : Env} {w : World} {t e : TypeId} {x y : Operand} {ad : Addr} {len cap q : Nat} {k : IntKind} (i : Nat) (hop : o.op = .indexAddr t x y) (hx : evalE l x = some (.slice (some ad) len cap)) (hy : evalE l y = some (.int k (i : Int))) (hu : ∀ w, (underlying t).run P w = .ok (.slice e) w)
    (hz : ∀ w, (sizeOf e).run P w = .ok q w) (h1 : i < len) : Yield P N o l w (.pointer (some (ad.add (i * q)))) := by
  have := Yield.indexAddr (N := N) (w := w) hop hx hy hu hz (by omega) (by omega)
  rwa [Int.toNat_natCast] at this

/-- whole numbers, bytes -/
def encIv (k : IntKind) : Enc Int := ⟨1, fun x => [.int k x], fun _ => rfl, by decide, fun x v h => by simp at h; subst h; rfl⟩
def encB : Enc UInt8 := ⟨1, fun x => [.int .u8 (x.toNat : Int)], fun _ => rfl, by decide, fun x v h => by simp at h; subst h; rfl⟩

/-! ### bits of 64 -/
theorem ofInt_toNat (a : BitVec 64) : BitVec.ofInt 64 (a.toNat : Int) = a := by
  apply BitVec.eq_of_toNat_eq
  simp
theorem u64_wrap_bv (a : BitVec 64) : IntKind.u64.wrap (a.toNat : Int) = (a.toNat : Int) := wrap_u64 (by omega) (by have := a.isLt; omega)
theorem bv_and (a b : BitVec 64) : IntKind.u64.wrap ((BitVec.ofInt IntKind.u64.bits (a.toNat : Int) &&& BitVec.ofInt IntKind.u64.bits (b.toNat : Int)).toNat : Int) = ((a &&& b).toNat : Int) := by
  rw [show IntKind.u64.bits = 64 from rfl, ofInt_toNat, ofInt_toNat, u64_wrap_bv]
theorem bv_or (a b : BitVec 64) : IntKind.u64.wrap ((BitVec.ofInt IntKind.u64.bits (a.toNat : Int) ||| BitVec.ofInt IntKind.u64.bits (b.toNat : Int)).toNat : Int) = ((a ||| b).toNat : Int) := by
  rw [show IntKind.u64.bits = 64 from rfl, ofInt_toNat, ofInt_toNat, u64_wrap_bv]
theorem bv_andNot (a b : BitVec 64) : IntKind.u64.wrap ((BitVec.ofInt IntKind.u64.bits (a.toNat : Int) &&& ~~~ BitVec.ofInt IntKind.u64.bits (b.toNat : Int)).toNat : Int) = ((a &&& ~~~ b).toNat : Int) := by
  rw [show IntKind.u64.bits = 64 from rfl, ofInt_toNat, ofInt_toNat, u64_wrap_bv]
end Go.Lv
