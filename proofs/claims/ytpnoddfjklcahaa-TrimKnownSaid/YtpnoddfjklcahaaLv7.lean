import Derived.Test.YtpnoddfjklcahaaLv6
set_option linter.all false
namespace Go.Lv
open Go.RowKit
section
variable {P : Program} {N K : Nat} {ops : Array Oper} {Q Q' : Exit → Act → World → Prop} {l : Env} {w : World} {o : Oper} {rest : List Oper}

/-! ### where a piece of code ends -/

def Nm (N K : Nat) (Q : Exit → Act → World → Prop) (l : Env) (w : World) : Prop := ∀ a n, K ≤ n → St N l a → Q .normal a (w.drewN n)
def Ex (N K : Nat) (i : Nat) (Q : Exit → Act → World → Prop) (l : Env) (w : World) : Prop := ∀ a n, K ≤ n → St N l a → Q (.exit i) a (w.drewN n)

theorem WL.fin (h : Nm N K Q l w) : WL P N K ops Q [] l w := WL.nil h
theorem W.skipN (h : Nm N K Q l w) : W P N K .skip Q l w := W.skip h
theorem W.exitX {i : Nat} (h : Ex N K i Q l w) : W P N K (.exit i) Q l w := W.exit h
theorem Ex.hit {i : Nat} (h : Nm N K Q l w) : Ex N K i (Exit.inBlock i Q) l w := fun a n hk hs => by
  simp only [Exit.inBlock, if_true]; exact h a n hk hs
theorem Ex.miss {i j : Nat} (hij : Nat.beq i j = false) (h : Ex N K i Q l w) : Ex N K i (Exit.inBlock j Q) l w := fun a n hk hs => by
  have : ¬ i = j := fun e => by rw [e, Nat.beq_refl] at hij; cases hij
  simp only [Exit.inBlock, if_neg this]; exact h a n hk hs
theorem Ex.thenX {i : Nat} {KK : Act → World → Prop} (h : Ex N K i Q l w) : Ex N K i (Exit.then KK Q) l w := fun a n hk hs => h a n hk hs
theorem Nm.block {i : Nat} (h : Nm N K Q l w) : Nm N K (Exit.inBlock i Q) l w := fun a n hk hs => h a n hk hs
theorem Nm.code {c : Code} (h : W P N K c Q' l w) : Nm N K (Exit.then (c.wp P Q') Q) l w := fun a n hk hs => h a n hk hs
theorem Nm.again {σ : Type} {L : σ → Env} {Inv : σ → World → Prop} {μ : σ → Nat} {s : σ} (s' : σ) (hk : l.has (L s')) (hi : Inv s' w) (hlt : μ s' < μ s) :
    Nm N K (Exit.then (Again N K L Inv μ s) Q) l w := fun _ n hn hs => ⟨s', w, n, hn, rfl, hi, hlt, hs.weaken hk⟩
theorem Nm.post {fn : Func} {R : Value → World → Prop} {rs : List ResultVar} {vs : List Value} (hr : fn.results = rs.toArray) (hx : resE l rs = some vs) (h : R (resV vs) w) : Nm N K (Post P fn K R) l w :=
  fun _ n hk hs => ⟨hs.defers, resV vs, results_run hs hr hx _, resV vs, w, n, hk, rfl, rfl, h⟩
theorem Nm.weaken {k : Env} (hk : l.has k) (h : Nm N K Q k w) : Nm N K Q l w := fun a n hn hs => h a n hn (hs.weaken hk)

/-- the roads through a piece meet again: what is kept of the slots, and a relation on the world -/
def Meet (N K : Nat) {σ : Type} (L : σ → Env) (Inv : σ → World → Prop) (a : Act) (w' : World) : Prop := ∃ s w1 m, K ≤ m ∧ w' = w1.drewN m ∧ Inv s w1 ∧ St N (L s) a
theorem W.seq_cut {x y : Code} {σ : Type} (L : σ → Env) (Inv : σ → World → Prop) (h1 : W P N K x (Exit.then (Meet N K L Inv) Q) l w) (h2 : ∀ s w1, Inv s w1 → W P N K y Q (L s) w1) : W P N K (.seq x y) Q l w := by
  intro a n hk hs
  refine wp_seq (wp_mono (h1 a n hk hs) fun e a' w' q => ?_)
  cases e with
  | normal =>
    obtain ⟨s, w1, m, hm, rfl, hi, hst⟩ := q
    exact h2 s w1 hi a' m hm hst
  | exit id => exact q
  | goto l => exact q
  | ret => exact q
  | panic ch => exact q
  | outgrown => exact q
theorem Nm.meet {σ : Type} {L : σ → Env} {Inv : σ → World → Prop} (s : σ) (hk : l.has (L s)) (hi : Inv s w) : Nm N K (Exit.then (Meet N K L Inv) Q) l w := fun _ n hn hs => ⟨s, w, n, hn, rfl, hi, hs.weaken hk⟩

theorem Env.has_nil : l.has [] := trivial
theorem Env.has_cons {t : Nat} {v : Value} {r : Env} (h : l.get t = some v) (hr : l.has r) : l.has ((t, v) :: r) := ⟨h, hr⟩

theorem blk_cells {b i : Nat} {cs : Array Value} {t : TypeId} {fr : Nat × Nat} (h : w.heap[b]? = some (.cells cs t fr)) {xs : List Value} (hx : (cs.toList.drop i).take xs.length = xs) : ∀ j v, xs[j]? = some v → w.cell? ((⟨b, i, none⟩ : Addr).add j) = some v := by
  intro j v hj
  have hadd : (⟨b, i, none⟩ : Addr).add j = ⟨b, i + j, none⟩ := by unfold Addr.add; split <;> simp_all
  rw [hadd]
  refine cell_get h ?_
  rw [← hx, List.getElem?_take] at hj
  split at hj
  · rw [List.getElem?_drop] at hj; simpa using hj
  · cases hj

/-! ### whole numbers that fit -/
theorem wrap_i64 {x : Int} (h0 : -9223372036854775808 ≤ x) (h1 : x ≤ 9223372036854775807) : IntKind.i64.wrap x = x := by
  unfold IntKind.wrap; simp [IntKind.bits, IntKind.signed]; omega
theorem wrap_u64 {x : Int} (h0 : 0 ≤ x) (h1 : x ≤ 18446744073709551615) : IntKind.u64.wrap x = x := by
  unfold IntKind.wrap; simp [IntKind.bits, IntKind.signed]; omega
theorem wrap_u8 {x : Int} (h0 : 0 ≤ x) (h1 : x ≤ 255) : IntKind.u8.wrap x = x := by
  unfold IntKind.wrap; simp [IntKind.bits, IntKind.signed]; omega

theorem Yield.ar {op : BinOp} {t ty : TypeId} {x y : Operand} {k : IntKind} {a b : Int} {v v' : Value} (hop : o.op = .binOp op t x y ty) (hx : evalE l x = some (.int k a)) (hy : evalE l y = some (.int k b)) (h : arithV op k a b = some v) (e : v = v') : Yield P N o l w v' :=
  (Yield.bin hop hx hy h).cast e

theorem int_eq {k : IntKind} {a b : Int} (h : a = b) : Value.int k a = Value.int k b := by rw [h]
theorem bool_eq {a b : Bool} (h : a = b) : Value.bool a = Value.bool b := by rw [h]
theorem bool_dec {p q : Prop} [Decidable p] [Decidable q] (h : p ↔ q) : Value.bool (decide p) = Value.bool (decide q) := by
  congr 1; exact decide_eq_decide.2 h
theorem bool_true {p : Prop} [Decidable p] (h : p) : Value.bool (decide p) = Value.bool true := by simp [h]
theorem bool_false {p : Prop} [Decidable p] (h : ¬ p) : Value.bool (decide p) = Value.bool false := by simp [h]
end
end Go.Lv
