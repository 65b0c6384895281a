import Derived.Test.YtpnoddfjklcahaaLv10
import Derived.Laws.StructEq
set_option linter.all false
namespace Go.Lv
open Go.RowKit
section
variable {P : Program} {N K : Nat} {ops : Array Oper} {Q : Exit → Act → World → Prop} {l : Env} {w : World} {o : Oper}

/-! ### structs of whole numbers, compared -/
def IntFields (P : Program) : Nat → List Field → List IntKind → Prop
  | _, [], [] => True
  | i, f :: fs, k :: ks => f.name ≠ "_" ∧ f.offset = i ∧ P.underlying f.type = some (.int k) ∧ IntFields P (i + 1) fs ks
  | _, _, _ => False

def intFieldsB (P : Program) : Nat → List Field → List IntKind → Bool
  | _, [], [] => true
  | i, f :: fs, k :: ks => !(f.name == "_") && Nat.beq f.offset i && (match P.underlying f.type with | some (.int k') => k' == k | _ => false) && intFieldsB P (i + 1) fs ks
  | _, _, _ => false
theorem intFieldsB_spec {P : Program} : ∀ {i : Nat} {fs : List Field} {ks : List IntKind}, intFieldsB P i fs ks = true → IntFields P i fs ks
  | _, [], [], _ => trivial
  | _, [], _ :: _, h => by simp [intFieldsB] at h
  | _, _ :: _, [], h => by simp [intFieldsB] at h
  | i, f :: fs, k :: ks, h => by
    simp only [intFieldsB, Bool.and_eq_true, Bool.not_eq_true'] at h
    obtain ⟨⟨⟨h1, h2⟩, h3⟩, h4⟩ := h
    refine ⟨by simpa using h1, Nat.eq_of_beq_eq_true h2, ?_, intFieldsB_spec h4⟩
    split at h3
    · rename_i k' hk
      have : k' = k := by simpa using h3
      rw [hk, this]
    · cases h3

def intVs : List IntKind → List Int → List Value
  | k :: ks, x :: xs => .int k x :: intVs ks xs
  | _, _ => []

theorem run_part_int {t : TypeId} {k : IntKind} (h : P.underlying t = some (.int k)) {xs : Array Value} {i : Nat} {v : Value} (hv : xs[i]? = some v) (w : World) : (part t xs i).run P w = .ok v w := by
  simp [part, isAgg, run_underlying h, hv]

theorem run_eqFields_int (d : Nat) (w : World) : ∀ (fs : List Field) (ks : List IntKind) (i : Nat) (as bs : List Int) (xs ys : Array Value), IntFields P i fs ks → as.length = ks.length → bs.length = ks.length →
    (∀ j v, (intVs ks as)[j]? = some v → xs[i + j]? = some v) → (∀ j v, (intVs ks bs)[j]? = some v → ys[i + j]? = some v) → (Op.eqFields (d + 1) xs ys fs).run P w = .ok (decide (as = bs)) w
  | [], [], _, as, bs, _, _, _, ha, hb, _, _ => by
    have h1 : as = [] := List.eq_nil_of_length_eq_zero ha
    have h2 : bs = [] := List.eq_nil_of_length_eq_zero hb
    subst h1; subst h2
    simp [Op.eqFields]
  | [], _ :: _, _, _, _, _, _, h, _, _, _, _ => by simp [IntFields] at h
  | _ :: _, [], _, _, _, _, _, h, _, _, _, _ => by simp [IntFields] at h
  | f :: fs, k :: ks, i, as, bs, xs, ys, h, ha, hb, hx, hy => by
    obtain ⟨h1, h2, h3, h4⟩ := h
    match as, ha with
    | a :: as, ha => match bs, hb with
      | b :: bs, hb =>
        have hx0 : xs[i]? = some (.int k a) := hx 0 (.int k a) rfl
        have hy0 : ys[i]? = some (.int k b) := hy 0 (.int k b) rfl
        have ih := run_eqFields_int d w fs ks (i + 1) as bs xs ys h4 (by simpa using ha) (by simpa using hb) (fun j v hj => by have := hx (j + 1) v (by simpa [intVs] using hj); rwa [show i + (j + 1) = i + 1 + j by omega] at this)
          (fun j v hj => by have := hy (j + 1) v (by simpa [intVs] using hj); rwa [show i + (j + 1) = i + 1 + j by omega] at this)
        simp only [Op.eqFields, if_pos h1, Sem.run_bind, h2, run_part_int h3 hx0, run_part_int h3 hy0, Result.andThen_ok, run_equalIn_int w d f.type k k a b h3]
        by_cases e : a = b
        · subst e
          simp [ih]
        · simp [e]

theorem eq_struct_run {t : TypeId} {ks : List IntKind} {as bs : List Int} {xs ys : Array Value} (hf : IntFields P 0 (P.fieldsOf t).toList ks) (ht : P.underlying t = some (.struct (P.fieldsOf t))) (hp : P.stoodInHeld t = false) (ha : as.length = ks.length) (hb : bs.length = ks.length)
    (hx : xs.toList = intVs ks as) (hy : ys.toList = intVs ks bs) (w : World) : (Op.equalIn 10000 t (.agg xs) (.agg ys)).run P w = .ok (decide (as = bs)) w := by
  rw [run_equalIn_struct w 9999 t xs ys ht hp]
  refine run_eqFields_int 9998 w _ ks 0 as bs xs ys hf ha hb (fun j v hj => ?_) (fun j v hj => ?_)
  · rw [← hx] at hj; simpa using hj
  · rw [← hy] at hj; simpa using hj

theorem Yield.neStruct {t ty : TypeId} {x y : Operand} (ks : List IntKind) (as bs : List Int) {xs ys : Array Value} (hop : o.op = .binOp .neq t x y ty) (hx : evalE l x = some (.agg xs)) (hy : evalE l y = some (.agg ys)) (hf : intFieldsB P 0 (P.fieldsOf t).toList ks = true) (ht : P.underlying t = some (.struct (P.fieldsOf t)))
    (hp : P.stoodInHeld t = false) (hm : P.eqGuardType P.depth t = false) (ha : as.length = ks.length) (hb : bs.length = ks.length) (h1 : xs.toList = intVs ks as) (h2 : ys.toList = intVs ks bs) : Yield P N o l w (.bool (!decide (as = bs))) := by
  intro ac n hs
  simp only [execOp, hop]
  rw [hs.eval hx, hs.eval hy]
  refine run_v ?_
  simp [run_eqGuard_agg _ _ t x y xs ys hm, run_neq_struct, eq_struct_run (intFieldsB_spec hf) ht hp ha hb h1 h2]

/-! ### rows -/
theorem Rd.none_nil {α : Type} {E : Enc α} {A : Option Addr} {l : List α} (h : Rd E w A l) (hA : A.isNone = true) : l = [] := by
  cases l with
  | nil => rfl
  | cons x r =>
    obtain ⟨ad, rfl⟩ := h.addr (i := 0) (by simp)
    cases hA

/-- a slice of one's own -/
def NwSl {α : Type} (B : Nat) (E : Enc α) (e : TypeId) (l : List α) (v : Value) (w : World) : Prop := ∃ A c, v = .slice A l.length c ∧ l.length ≤ c ∧ Nw B E e l (.slice A l.length c) w
def NwLg {α : Type} (B : Nat) (E : Enc α) (e : TypeId) (l : List α) (v : Value) (w : World) : Prop := ∃ A c, v = .agg #[.slice A l.length c] ∧ l.length ≤ c ∧ Nw B E e l (.slice A l.length c) w
theorem NwSl.stable {α : Type} (B : Nat) (E : Enc α) (e : TypeId) (l : List α) : Stable (NwSl B E e l) := fun _ _ _ h ⟨A, c, h1, h2, h3⟩ => ⟨A, c, h1, h2, h3.ext h⟩
theorem NwLg.stable {α : Type} (B : Nat) (E : Enc α) (e : TypeId) (l : List α) : Stable (NwLg B E e l) := fun _ _ _ h ⟨A, c, h1, h2, h3⟩ => ⟨A, c, h1, h2, h3.ext h⟩
theorem NwSl.le {α : Type} {B B' : Nat} {E : Enc α} {e : TypeId} {l : List α} {v : Value} (h : NwSl B E e l v w) (hB : B' ≤ B) : NwSl B' E e l v w := by
  obtain ⟨A, c, h1, h2, h3⟩ := h; exact ⟨A, c, h1, h2, h3.le hB⟩
theorem NwLg.le {α : Type} {B B' : Nat} {E : Enc α} {e : TypeId} {l : List α} {v : Value} (h : NwLg B E e l v w) (hB : B' ≤ B) : NwLg B' E e l v w := by
  obtain ⟨A, c, h1, h2, h3⟩ := h; exact ⟨A, c, h1, h2, h3.le hB⟩
theorem Nw.toSl {α : Type} {B : Nat} {E : Enc α} {e : TypeId} {l : List α} {v : Value} (h : Nw B E e l v w) : NwSl B E e l v w := by
  obtain ⟨A, c, rfl, hc, _⟩ := h.1.rd
  exact ⟨A, c, rfl, hc, h⟩
theorem Nw.below {α : Type} {B : Nat} {E : Enc α} {e : TypeId} {l : List α} {v : Value} (h : Nw B E e l v w) {b : Nat} (hb : w.heap.size ≤ b) : ∀ q, v.ownBlock = some q → q < b := fun _ hq => Nat.lt_of_lt_of_le (h.1.lt hq) hb
theorem Nw.one {α : Type} {B : Nat} {E : Enc α} {e : TypeId} {l : List α} {v : Value} (h : Nw B E e l v w) : v.oneCell' = true := by
  obtain ⟨A, c, rfl, hc, _⟩ := h.1.rd
  rfl
theorem Nw.toLg {α : Type} {B : Nat} {E : Enc α} {e : TypeId} {l : List α} {v : Value} (h : Nw B E e l v w) : NwLg B E e l (.agg #[v]) w := by
  obtain ⟨A, c, rfl, hc, _⟩ := h.1.rd
  exact ⟨A, c, rfl, hc, h⟩
theorem Nw.rd {α : Type} {B : Nat} {E : Enc α} {e : TypeId} {l : List α} {A : Option Addr} {n c : Nat} (h : Nw B E e l (.slice A n c) w) : Rd E w A l := by
  obtain ⟨A', c', h1, _, h2⟩ := h.1.rd
  simp only [Value.slice.injEq] at h1
  obtain ⟨rfl, _, _⟩ := h1
  exact h2
theorem NwSl.sl {α : Type} {B : Nat} {E : Enc α} {e : TypeId} {l : List α} {v : Value} (h : NwSl B E e l v w) : Sl E l v w := by
  obtain ⟨A, c, h1, h2, h3⟩ := h; exact ⟨A, c, h1, h2, h3.rd⟩
theorem NwLg.lg {α : Type} {B : Nat} {E : Enc α} {e : TypeId} {l : List α} {v : Value} (h : NwLg B E e l v w) : Lg E l v w := by
  obtain ⟨A, c, h1, h2, h3⟩ := h; exact ⟨A, c, h1, h2, h3.rd⟩

theorem Enc.all_set {α : Type} (E : Enc α) : ∀ (l : List α) (i : Nat) (x y : α) (j : Nat) (u : Value), l[i]? = some x → E.enc y = (E.enc x).set j u → j < E.sz → E.all (l.set i y) = (E.all l).set (i * E.sz + j) u
  | [], _, _, _, _, _, h, _, _ => by simp at h
  | z :: r, 0, x, y, j, u, h, he, hj => by
    simp only [List.getElem?_cons_zero, Option.some.injEq] at h
    subst h
    show E.enc y ++ E.all r = (E.enc z ++ E.all r).set (0 * E.sz + j) u
    rw [Nat.zero_mul, Nat.zero_add, List.set_append_left _ _ (by rw [E.len]; exact hj), he]
  | z :: r, i + 1, x, y, j, u, h, he, hj => by
    simp only [List.getElem?_cons_succ] at h
    have ih := E.all_set r i x y j u h he hj
    show E.enc z ++ E.all (r.set i y) = (E.enc z ++ E.all r).set ((i + 1) * E.sz + j) u
    have hl := E.len z
    rw [List.set_append_right _ _ (by rw [hl, Nat.add_mul]; omega), ih, hl, Nat.add_mul]
    congr 2
    omega

/-- one cell of a row of one's own is written -/
theorem Eff.setCellRow {α : Type} {E : Enc α} {B : Nat} {t e : TypeId} {x y : Operand} {ad : Addr} {n c i j : Nat} {u : Value} {ls : List α} {a b : α} (hop : o.op = .store t x y) (hx : evalE l x = some (.pointer (some ((ad.add (i * E.sz)).add j)))) (hy : evalE l y = some u) (hz : ∀ w, (sizeOf t).run P w = .ok 1 w) (hv : u.oneCell' = true)
    (hr : Nw B E e ls (.slice (some ad) n c) w) (hi : ls[i]? = some a) (hb : E.enc b = (E.enc a).set j u) (hj : Nat.blt j E.sz = true) :
    Eff P N o l (w = ·) fun _ w1 => Only (· = ad.block) w w1 ∧ B ≤ ad.block ∧ Nw B E e (ls.set i b) (.slice (some ad) n c) w1 := by
  have hj' : j < E.sz := by simpa [Nat.blt_eq] using hj
  have hlt : i < ls.length := (List.getElem?_eq_some_iff.1 hi).1
  rcases hr.1.2 with ⟨h, _⟩ | ⟨g, off, cap, cur, h, hg, hnc, hcm, hcs, htake⟩
  · simp at h
  · simp only [Value.slice.injEq, Option.some.injEq] at h
    obtain ⟨rfl, rfl, rfl⟩ := h
    have hadd : ((⟨g, off, none⟩ : Addr).add (i * E.sz)).add j = ⟨g, off + (i * E.sz + j), none⟩ := by
      rw [add_add]; unfold Addr.add; split <;> simp_all
    rw [hadd] at hx
    have hpos : i * E.sz + j < ls.length * E.sz := by
      have : (i + 1) * E.sz ≤ ls.length * E.sz := Nat.mul_le_mul_right _ hlt
      rw [Nat.add_mul] at this; omega
    have hcap : ls.length * E.sz ≤ c * E.sz := Nat.mul_le_mul_right _ hnc
    refine (Eff.store hop hx hy hz hv (C := (w = ·)) (by rintro _ rfl; exact ⟨_, _, hg, by simp [Nat.blt_eq]; omega⟩)).mono ?_
    rintro _ _ ⟨_, rfl, rfl⟩
    refine ⟨Only.setCell _ ⟨g, off + (i * E.sz + j), none⟩ u, hr.2 g rfl, ⟨?_, fun q hq => hr.2 q hq⟩⟩
    have hset := setCell_get hg (off + (i * E.sz + j)) u
    refine ⟨E.all_len _, .inr ⟨g, off, c, _, by rw [List.length_set], hset, by rw [List.length_set]; exact hnc, hcm, by simpa using hcs, ?_⟩⟩
    rw [List.length_set, E.all_set ls i a b j u hi hb hj', ← htake, Array.toList_setIfInBounds]
    rw [List.drop_set, if_neg (by omega), List.take_set, show off + (i * E.sz + j) - off = i * E.sz + j by omega]

/-! rows that calls in a drawn region hand: new, and so apart from whatever else is new -/
theorem own_vblk {A : Option Addr} {n c q : Nat} (h : (Value.slice A n c).ownBlock = some q) : vblk (.slice A n c) = some q := by
  cases A with
  | none => simp [Value.ownBlock] at h
  | some a => simpa [Value.ownBlock, vblk] using h
theorem own_vblkA {A : Option Addr} {n c q : Nat} (h : (Value.slice A n c).ownBlock = some q) : vblk (.agg #[.slice A n c]) = some q := by
  cases A with
  | none => simp [Value.ownBlock] at h
  | some a => simpa [Value.ownBlock, vblk] using h
theorem vblk_own {A : Option Addr} {n c q : Nat} (h : vblk (.slice A n c) = some q) : (Value.slice A n c).ownBlock = some q := by
  cases A with
  | none => simp [vblk] at h
  | some a => simpa [Value.ownBlock, vblk] using h
theorem vblk_ownA {A : Option Addr} {n c q : Nat} (h : vblk (.agg #[.slice A n c]) = some q) : (Value.slice A n c).ownBlock = some q := by
  cases A with
  | none => simp [vblk] at h
  | some a => simpa [Value.ownBlock, vblk] using h
theorem Eff.callsSl {α : Type} {E : Enc α} {e : TypeId} {xs : List α} (B : Nat) (hB : B ≤ w.heap.size) (h : Eff P N o l (w = ·) fun v w1 => Ext w w1 ∧ NwSl w.heap.size E e xs v w1) : Eff P N o l (w = ·) fun u w1 => Ext w w1 ∧ NwSl B E e xs u w1 ∧ Fresh true u w w1 :=
  h.mono fun _ _ ⟨h1, h2⟩ => ⟨h1, h2.le hB, fun _ b hb => by
    obtain ⟨A, c, rfl, _, h3⟩ := h2
    exact ⟨h3.2 b (vblk_own hb), h3.1.lt (vblk_own hb)⟩⟩
theorem Eff.callsLg {α : Type} {E : Enc α} {e : TypeId} {xs : List α} (B : Nat) (hB : B ≤ w.heap.size) (h : Eff P N o l (w = ·) fun v w1 => Ext w w1 ∧ NwLg w.heap.size E e xs v w1) : Eff P N o l (w = ·) fun u w1 => Ext w w1 ∧ NwLg B E e xs u w1 ∧ Fresh true u w w1 :=
  h.mono fun _ _ ⟨h1, h2⟩ => ⟨h1, h2.le hB, fun _ b hb => by
    obtain ⟨A, c, rfl, _, h3⟩ := h2
    exact ⟨h3.2 b (vblk_ownA hb), h3.1.lt (vblk_ownA hb)⟩⟩
end
end Go.Lv
