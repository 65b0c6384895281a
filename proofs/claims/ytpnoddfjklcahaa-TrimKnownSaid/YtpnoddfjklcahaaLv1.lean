import Derived.WalkKit
import Derived.StillTail
import Derived.Deep.Draws
import Derived.Deep.LoopGhost
set_option linter.all false
namespace Go.Lv
open Go.RowKit

/-! ### A frame, as a short list of the slots that still matter -/

abbrev Env := List (Nat × Value)

def Env.get : Env → Nat → Option Value
  | [], _ => none
  | (i, v) :: r, t => cond (Nat.beq i t) (some v) (Env.get r t)

structure St (N : Nat) (l : Env) (a : Act) : Prop where
  defers : a.defers = []
  size : a.tmps.size = N
  slots : ∀ t v, l.get t = some v → a.tmps[t]? = some v

def evalE (l : Env) : Operand → Option Value
  | .tmp t => l.get t
  | .const v => some v
  | .global g => some (.pointer (some ⟨g, 0, none⟩))
  | .func f => some (.func (.func f) #[] #[])

theorem St.eval {N : Nat} {l : Env} {a : Act} (h : St N l a) {x : Operand} {v : Value} (hx : evalE l x = some v) : a.eval x = v := by
  cases x with
  | tmp t =>
    have h1 := h.slots t v hx
    simp [Act.eval, Array.getD_eq_getD_getElem?, h1]
  | const u => simpa [evalE, Act.eval] using hx
  | global g => simpa [evalE, Act.eval] using hx
  | func f => simpa [evalE, Act.eval] using hx

def evalEs (l : Env) : List Operand → Option (List Value)
  | [] => some []
  | x :: r => match evalE l x, evalEs l r with
    | some v, some vs => some (v :: vs)
    | _, _ => none

theorem St.evals {N : Nat} {l : Env} {a : Act} (h : St N l a) : ∀ {xs : List Operand} {vs : List Value}, evalEs l xs = some vs → xs.map a.eval = vs
  | [], vs, hx => by simpa [evalEs] using hx
  | x :: r, vs, hx => by
    simp only [evalEs] at hx
    split at hx
    · rename_i v us h1 h2
      simp only [Option.some.injEq] at hx
      subst hx
      simp [h.eval h1, h.evals h2]
    · cases hx

theorem St.put {N : Nat} {l : Env} {a : Act} (h : St N l a) {d : Nat} (hd : d < N) (v : Value) : St N ((d, v) :: l) (a.put (some d) v) := by
  refine ⟨h.defers, by simp [Act.put, h.size], fun t u ht => ?_⟩
  simp only [Env.get] at ht
  by_cases e : d = t
  · subst e
    simp only [Nat.beq_refl, cond_true, Option.some.injEq] at ht
    subst ht
    simp [Act.put, h.size, hd]
  · have hb : Nat.beq d t = false := by
      rw [Bool.eq_false_iff]; intro hh; exact e (Nat.eq_of_beq_eq_true hh)
    rw [hb] at ht
    have := h.slots t u ht
    simp [Act.put, Array.getElem?_setIfInBounds_ne e, this]

theorem St.put_none {N : Nat} {l : Env} {a : Act} (h : St N l a) (v : Value) : St N l (a.put none v) := h

/-- every slot of the second list is in the first -/
def Env.has (l : Env) : Env → Prop
  | [] => True
  | (t, v) :: r => l.get t = some v ∧ Env.has l r

theorem Env.has_get {l : Env} : ∀ {k : Env}, l.has k → ∀ t v, k.get t = some v → l.get t = some v
  | [], _, t, v, h => by simp [Env.get] at h
  | (i, u) :: r, hk, t, v, h => by
    simp only [Env.get] at h
    by_cases e : i = t
    · subst e
      simp only [Nat.beq_refl, cond_true, Option.some.injEq] at h
      subst h; exact hk.1
    · have hb : Nat.beq i t = false := by
        rw [Bool.eq_false_iff]; intro hh; exact e (Nat.eq_of_beq_eq_true hh)
      rw [hb] at h
      exact Env.has_get hk.2 t v h

theorem St.weaken {N : Nat} {l k : Env} {a : Act} (h : St N l a) (hk : l.has k) : St N k a :=
  ⟨h.defers, h.size, fun t v ht => h.slots t v (Env.has_get hk t v ht)⟩

/-! ### The goals -/
section
variable {P : Program} {N K : Nat}

def WL (P : Program) (N K : Nat) (ops : Array Oper) (Q : Exit → Act → World → Prop) (rest : List Oper) (l : Env) (w : World) : Prop :=
  ∀ a n, K ≤ n → St N l a → wpList P ops Q rest a (w.drewN n)

def W (P : Program) (N K : Nat) (c : Code) (Q : Exit → Act → World → Prop) (l : Env) (w : World) : Prop :=
  ∀ a n, K ≤ n → St N l a → c.wp P Q a (w.drewN n)

/-- a contract, up to draws -/
def Fc (P : Program) (f : FuncId) (args : Array Value) (w : World) (R : Value → World → Prop) : Prop :=
  ∀ n, Calls P f args (w.drewN n) fun e w' => ∃ v w1 m, n ≤ m ∧ e = .returned v ∧ w' = w1.drewN m ∧ R v w1

theorem Fc.mono {f : FuncId} {args : Array Value} {w : World} {R R' : Value → World → Prop} (h : Fc P f args w R) (hR : ∀ v w', R v w' → R' v w') : Fc P f args w R' :=
  fun n => (h n).mono fun _ _ ⟨v, w1, m, hm, he, hw, hr⟩ => ⟨v, w1, m, hm, he, hw, hR _ _ hr⟩

theorem drewN_add (w : World) (n m : Nat) : (w.drewN n).drewN m = w.drewN (n + m) := by simp [World.drewN, Nat.add_assoc]
theorem drew_eq (w : World) (n : Nat) : ({ w.drewN n with drawn := (w.drewN n).drawn + 1 } : World) = w.drewN (n + 1) := by simp [World.drewN, Nat.add_assoc]

variable {ops : Array Oper} {Q : Exit → Act → World → Prop} {rest : List Oper} {l : Env} {w : World} {o : Oper}

/-- an operation that reads alone -/
def Yield (P : Program) (N : Nat) (o : Oper) (l : Env) (w : World) (v : Value) : Prop :=
  ∀ a n, St N l a → (execOp a.eval o).run P (w.drewN n) = .ok (.value v) (w.drewN n)

theorem WL.yield {d : Nat} {v : Value} (hg : o.guard = none) (hd : o.dst = some d) (hN : Nat.blt d N = true) (hy : Yield P N o l w v) (h : WL P N K ops Q rest ((d, v) :: l) w) :
    WL P N K ops Q (o :: rest) l w := by
  intro a n hk hs
  refine wpList_plain hg fun KK hK => ?_
  rw [Oper.wp, hy a n hs]
  rw [Oper.upon_value, hd]
  have hlt : d < N := by simpa [Nat.blt_eq] using hN
  exact hK _ _ (h _ n hk (hs.put hlt v))

theorem WL.yield0 {v : Value} (hg : o.guard = none) (hd : o.dst = none) (hy : Yield P N o l w v) (h : WL P N K ops Q rest l w) :
    WL P N K ops Q (o :: rest) l w := by
  intro a n hk hs
  refine wpList_plain hg fun KK hK => ?_
  rw [Oper.wp, hy a n hs]
  rw [Oper.upon_value, hd]
  exact hK _ _ (h _ n hk (hs.put_none v))

theorem WL.weaken {k : Env} (hk : l.has k) (h : WL P N K ops Q rest k w) : WL P N K ops Q rest l w := fun a n hn hs => h a n hn (hs.weaken hk)

theorem WL.nil (h : ∀ a n, K ≤ n → St N l a → Q .normal a (w.drewN n)) : WL P N K ops Q [] l w := fun a n hk hs => wpList_nil (h a n hk hs)

/-- a piece of code behind a region -/
theorem WL.nil_then {c : Code} {Q' : Exit → Act → World → Prop} (h : W P N K c Q' l w) : WL P N K ops (Exit.then (c.wp P Q') Q) [] l w :=
  WL.nil fun a n hk hs => h a n hk hs

/-! guards -/
def guardE (ops : Array Oper) (l : Env) : Option (Nat × Bool) → Option Bool
  | none => some true
  | some (j, want) => match ops[j]? with
    | some o => match o.dst with
      | some d => match l.get d with
        | some (.bool b) => some (b == want)
        | some (.tuple _) => some false
        | _ => none
      | none => none
    | none => none

theorem yielded_of {a : Act} (hs : St N l a) {j d : Nat} {oj : Oper} {b : Bool} (h1 : ops[j]? = some oj) (h2 : oj.dst = some d) (h3 : l.get d = some (.bool b)) : yielded ops a.tmps j = some b := by
  have := hs.slots d _ h3
  simp [yielded, h1, h2, this]

theorem wanted_of {a : Act} {r : Bool} (hs : St N l a) (h : guardE ops l o.guard = some r) : Region.wanted o (yielded ops a.tmps) = r := by
  unfold Region.wanted
  cases hg : o.guard with
  | none => simp [hg, guardE] at h; simp [h]
  | some p =>
    obtain ⟨j, want⟩ := p
    simp only [hg, guardE] at h
    split at h
    · rename_i oj h1
      split at h
      · rename_i d h2
        split at h
        · rename_i b h3
          simp only [Option.some.injEq] at h
          rw [← h]; simp only [yielded_of hs h1 h2 h3]; cases b <;> cases want <;> rfl
        · rename_i b h3
          simp only [Option.some.injEq] at h
          rw [← h]
          have := hs.slots d _ h3
          simp [yielded, h1, h2, this]
        · cases h
      · cases h
    · cases h

theorem WL.yield_g {d : Nat} {v : Value} (hg : guardE ops l o.guard = some true) (hd : o.dst = some d) (hN : Nat.blt d N = true) (hy : Yield P N o l w v) (h : WL P N K ops Q rest ((d, v) :: l) w) :
    WL P N K ops Q (o :: rest) l w := by
  intro a n hk hs
  refine wpList_step fun KK hK => ?_
  rw [if_pos (wanted_of hs hg), Oper.wp, hy a n hs, Oper.upon_value, hd]
  have hlt : d < N := by simpa [Nat.blt_eq] using hN
  exact hK _ _ (h _ n hk (hs.put hlt v))

theorem WL.skip_g {d : Nat} (hg : guardE ops l o.guard = some false) (hd : o.dst = some d) (hN : Nat.blt d N = true) (h : WL P N K ops Q rest ((d, undef) :: l) w) :
    WL P N K ops Q (o :: rest) l w := by
  intro a n hk hs
  refine wpList_step fun KK hK => ?_
  rw [if_neg (by rw [wanted_of hs hg]; exact Bool.false_ne_true), hd]
  have hlt : d < N := by simpa [Nat.blt_eq] using hN
  exact hK _ _ (h _ n hk (hs.put hlt _))

/-! ### code -/
theorem W.seq {x y : Code} (h : W P N K x (Exit.then (y.wp P Q) Q) l w) : W P N K (.seq x y) Q l w := fun a n hk hs => wp_seq (h a n hk hs)
theorem W.skip (h : ∀ a n, K ≤ n → St N l a → Q .normal a (w.drewN n)) : W P N K .skip Q l w := fun a n hk hs => wp_skip (h a n hk hs)
theorem W.skip_then {c : Code} {Q' : Exit → Act → World → Prop} (h : W P N K c Q' l w) : W P N K .skip (Exit.then (c.wp P Q') Q) l w := W.skip fun a n hk hs => h a n hk hs
theorem W.label {i : Nat} (h : ∀ a n, K ≤ n → St N l a → Q .normal a (w.drewN n)) : W P N K (.label i) Q l w := fun a n hk hs => wp_label (h a n hk hs)
theorem W.exit {i : Nat} (h : ∀ a n, K ≤ n → St N l a → Q (.exit i) a (w.drewN n)) : W P N K (.exit i) Q l w := fun a n hk hs => wp_exit (h a n hk hs)
theorem W.ret (h : ∀ a n, K ≤ n → St N l a → Q .ret a (w.drewN n)) : W P N K .ret Q l w := fun a n hk hs => wp_ret (h a n hk hs)
theorem W.block {i : Nat} {c : Code} (h : W P N K c (Exit.inBlock i Q) l w) : W P N K (.block i c) Q l w := fun a n hk hs => wp_block (h a n hk hs)
theorem W.weaken {c : Code} {k : Env} (hk : l.has k) (h : W P N K c Q k w) : W P N K c Q l w := fun a n hn hs => h a n hn (hs.weaken hk)
theorem W.cond_true {x y : Code} {c : Operand} (hc : evalE l c = some (.bool true)) (h : W P N K x Q l w) : W P N K (.cond c x y) Q l w :=
  fun a n hk hs => wp_cond_true (hs.eval hc) (h a n hk hs)
theorem W.cond_false {x y : Code} {c : Operand} (hc : evalE l c = some (.bool false)) (h : W P N K y Q l w) : W P N K (.cond c x y) Q l w :=
  fun a n hk hs => wp_cond_false (hs.eval hc) (h a n hk hs)
theorem W.cond {x y : Code} {c : Operand} {t : Bool} (hc : evalE l c = some (.bool t)) (h1 : t = true → W P N K x Q l w) (h2 : t = false → W P N K y Q l w) : W P N K (.cond c x y) Q l w :=
  fun a n hk hs => wp_cond_split (hs.eval hc) (fun e => h1 e a n hk hs) (fun e => h2 e a n hk hs)
theorem W.cond_dec {x y : Code} {c : Operand} {p : Prop} [Decidable p] (hc : evalE l c = some (.bool (decide p))) (h1 : p → W P N K x Q l w) (h2 : ¬ p → W P N K y Q l w) : W P N K (.cond c x y) Q l w :=
  W.cond hc (fun e => h1 (of_decide_eq_true e)) (fun e => h2 (of_decide_eq_false e))

theorem W.region {i : Nat} {ops : List Oper} (h : WL P N K ops.toArray Q ops l w) : W P N K (.region i ops.toArray false) Q l w := fun a n hk hs => wp_region_lit (h a n hk hs)

/-- a loop: 'σ' is what changes from round to round -/
def Again (N K : Nat) {σ : Type} (L : σ → Env) (Inv : σ → World → Prop) (μ : σ → Nat) (s : σ) (a : Act) (w' : World) : Prop :=
  ∃ s' w1 m, K ≤ m ∧ w' = w1.drewN m ∧ Inv s' w1 ∧ μ s' < μ s ∧ St N (L s') a

theorem W.loop {c : Code} {σ : Type} (L : σ → Env) (Inv : σ → World → Prop) (μ : σ → Nat) (s0 : σ) (h0 : l.has (L s0)) (i0 : Inv s0 w)
    (round : ∀ s w, Inv s w → W P N K c (Exit.then (Again N K L Inv μ s) Q) (L s) w) : W P N K (.loop c) Q l w := by
  intro a n hk hs
  refine wp_loop_ghost (fun k a w' => ∃ s w1 m, K ≤ m ∧ w' = w1.drewN m ∧ Inv s w1 ∧ μ s = k ∧ St N (L s) a) (μ s0) ⟨s0, w, n, hk, rfl, i0, rfl, hs.weaken h0⟩ ?_
  rintro k a w' ⟨s, w1, m, hm, rfl, hi, rfl, hst⟩
  refine wp_mono (round s w1 hi a m hm hst) fun e a w q => ?_
  cases e with
  | normal =>
    obtain ⟨s', w2, m', hm', hw, hi', hlt, hst'⟩ := q
    exact ⟨μ s', hlt, s', w2, m', hm', hw, hi', rfl, hst'⟩
  | exit id => exact q
  | goto l => exact q
  | ret => exact q
  | panic ch => exact q
  | outgrown => exact q

end
end Go.Lv
