import Derived.Test.YtpnoddfjklcahaaLv5
set_option linter.all false
namespace Go.Lv
open Go.RowKit

/-! ### operations that act -/
section
variable {P : Program} {N K : Nat} {o : Oper} {l : Env} {w : World} {C : World → Prop}

theorem WL.eff {ops : Array Oper} {Q : Exit → Act → World → Prop} {rest : List Oper} (C2 : Value → World → Prop) (hg : guardE ops l o.guard = some true) (hN : okN N o.dst = true) (he : Eff P N o l (w = ·) C2)
    (h : ∀ v w1, C2 v w1 → WL P N K ops Q rest (putE o.dst v l) w1) : WL P N K ops Q (o :: rest) l w := by
  intro a n hk hs
  refine wpList_step fun KK hK => ?_
  rw [if_pos (wanted_of hs hg), Oper.wp]
  have next : ∀ v w1 m, n ≤ m → C2 v w1 → KK (a.put o.dst v) (w1.drewN m) := fun v w1 m hm hc => hK _ _ (h v w1 hc _ m (Nat.le_trans hk hm) (hs.putE hN v))
  rcases he w rfl a n hs with ⟨v, w1, m, hm, hr, hc⟩ | ⟨w1, m, hm, hr, hc⟩ | ⟨f, args, hr, hcall⟩
  · rw [hr]; exact next v w1 m hm hc
  · rw [hr]; exact next undef w1 m hm hc
  · rw [hr]
    refine Calls.mono hcall fun e w'' ⟨v, w1, m, hm, h1, h2, h3⟩ => ?_
    subst h1; subst h2
    exact next v w1 m hm h3

theorem Eff.mono {C2 C3 : Value → World → Prop} (h : Eff P N o l C C2) (hC : ∀ v w, C2 v w → C3 v w) : Eff P N o l C C3 := by
  intro w' hw a n hs
  rcases h w' hw a n hs with ⟨v, w1, m, hm, hr, hc⟩ | ⟨w1, m, hm, hr, hc⟩ | ⟨f, args, hr, hcall⟩
  · exact .inl ⟨v, w1, m, hm, hr, hC _ _ hc⟩
  · exact .inr (.inl ⟨w1, m, hm, hr, hC _ _ hc⟩)
  · exact .inr (.inr ⟨f, args, hr, Calls.mono hcall fun e w'' ⟨v, w1, m, hm, h1, h2, h3⟩ => ⟨v, w1, m, hm, h1, h2, hC _ _ h3⟩⟩)

theorem Eff.box {e : TypeId} {x : Operand} {v : Value} (hop : o.op = .box e x) (hx : evalE l x = some v) :
    Eff P N o l C fun u w1 => ∃ w' b, C w' ∧ b = w'.heap.size ∧ u = .pointer (some ⟨b, 0, none⟩) ∧ w1 = w'.alloc (.cells v.cells e) := by
  intro w' hw a n hs
  refine .inl ⟨.pointer (some ⟨w'.heap.size, 0, none⟩), w'.alloc (.cells v.cells e), n, Nat.le_refl _, ?_, w', _, hw, rfl, rfl, rfl⟩
  simp only [execOp, hop]
  rw [hs.eval hx]
  refine run_v ?_
  simp [Instr.box, newVar, newRow]; rfl

theorem Eff.alloc {e : TypeId} {z : Value} (hop : o.op = .alloc e) (hz : ∀ w, (zeroValue e).run P w = .ok z w) :
    Eff P N o l C fun u w1 => ∃ w' b, C w' ∧ b = w'.heap.size ∧ u = .pointer (some ⟨b, 0, none⟩) ∧ w1 = w'.alloc (.cells z.cells e) := by
  intro w' hw a n hs
  refine .inl ⟨.pointer (some ⟨w'.heap.size, 0, none⟩), w'.alloc (.cells z.cells e), n, Nat.le_refl _, ?_, w', _, hw, rfl, rfl, rfl⟩
  simp only [execOp, hop]
  refine run_v ?_
  simp [Instr.alloc, hz _, newVar, newRow]; rfl

/-- parts of a literal, with their places -/
def evalPs (l : Env) : List (Nat × Operand) → Option (List (Nat × Value))
  | [] => some []
  | (i, x) :: r => match evalE l x, evalPs l r with
    | some v, some vs => some ((i, v) :: vs)
    | _, _ => none

theorem St.evalPs {a : Act} (h : St N l a) : ∀ {xs : List (Nat × Operand)} {vs : List (Nat × Value)}, evalPs l xs = some vs → (xs.map fun (i, x) => (i, a.eval x)) = vs
  | [], vs, hx => by simpa [Lv.evalPs] using hx
  | (i, x) :: r, vs, hx => by
    simp only [Lv.evalPs] at hx
    split at hx
    · rename_i v us h1 h2
      simp only [Option.some.injEq] at hx
      subst hx
      simp [h.eval h1, h.evalPs h2]
    · cases hx

/-- a literal whose every element is given, in order -/
def partsFrom : Nat → List Value → List (Nat × Value)
  | _, [] => []
  | i, v :: r => (i, v) :: partsFrom (i + 1) r

theorem foldl_set (off : Nat) : ∀ (xs : List Value) (j : Nat) (cs : List Value), off + j + xs.length ≤ cs.length →
    (xs.zipIdx j).foldl (fun (cs : Array Value) (c, j) => cs.setIfInBounds (off + j) c) cs.toArray = (cs.take (off + j) ++ xs ++ cs.drop (off + j + xs.length)).toArray
  | [], j, cs, _ => by simp
  | x :: r, j, cs, h => by
    simp only [List.length_cons] at h
    simp only [List.zipIdx_cons, List.foldl_cons, List.setIfInBounds_toArray]
    rw [foldl_set off r (j + 1) (cs.set (off + j) x) (by simp; omega)]
    congr 1
    rw [List.set_eq_take_append_cons_drop, if_pos (by omega)]
    have h1 : (cs.take (off + j)).length = off + j := by simp; omega
    rw [show off + (j + 1) = (cs.take (off + j)).length + 1 by rw [h1]; omega, List.take_length_add_append, List.take_succ_cons, List.take_zero]
    rw [show (cs.take (off + j)).length + 1 + r.length = (cs.take (off + j)).length + (1 + r.length) by omega, List.drop_length_add_append]
    rw [show 1 + r.length = r.length + 1 by omega, List.drop_succ_cons, List.drop_drop]
    simp only [List.length_cons, List.append_assoc, List.cons_append, List.nil_append]
    congr 3
    congr 1
    omega

theorem fill_from (q : Nat) : ∀ (vs : List Value) (k : Nat) (dn rest : List Value), (∀ v ∈ vs, v.cells.size = q) → dn.length = k * q → rest.length = vs.length * q →
    Instr.fill (fun i => some (i * q, q)) (dn ++ rest).toArray (partsFrom k vs) = some (dn ++ vs.flatMap fun v => v.cells.toList).toArray
  | [], k, dn, rest, _, _, hr => by
    have : rest = [] := List.eq_nil_of_length_eq_zero (by simpa using hr)
    subst this
    simp [partsFrom, Instr.fill]
  | v :: r, k, dn, rest, hv, hd, hr => by
    have hq := hv v (by simp)
    simp only [List.length_cons, Nat.add_mul, Nat.one_mul] at hr
    simp only [partsFrom, Instr.fill]
    rw [if_neg]
    · have hf := foldl_set (k * q) v.cells.toList 0 (dn ++ rest) (by simp [hq]; omega)
      have e1 : (v.cells.zipIdx.foldl (fun (cs : Array Value) (c, j) => cs.setIfInBounds (k * q + j) c) (dn ++ rest).toArray) = ((dn ++ v.cells.toList) ++ rest.drop q).toArray := by
        rw [← Array.foldl_toList, Array.toList_zipIdx]
        rw [hf]
        congr 1
        simp only [Nat.add_zero]
        rw [← hd, List.take_left]
        have e2 : v.cells.toList.length = q := by rw [Array.length_toList, hq]
        rw [e2, ← List.drop_drop, List.drop_left]
      rw [e1]
      have := fill_from q r (k + 1) (dn ++ v.cells.toList) (rest.drop q) (fun u hu => hv u (by simp [hu])) (by simp [hd, hq, Nat.add_mul]) (by simp; omega)
      rw [this]
      simp [List.append_assoc]
    · simp only [hq, ne_eq, not_true_eq_false, List.size_toArray, List.length_append, Bool.or_eq_true, decide_eq_true_eq, false_or, Nat.not_lt]
      omega

theorem Eff.buildSlice {t e : TypeId} {len : Nat} {ps : List (Nat × Operand)} (vs : List Value) {q : Nat} {z : Value} (hop : o.op = .buildSlice t len ps.toArray) (hx : evalPs l ps = some (partsFrom 0 vs)) (hu : ∀ w, (underlying t).run P w = .ok (.slice e) w)
    (hz : ∀ w, (sizeOf e).run P w = .ok q w) (hzero : ∀ w, (zeroValue e).run P w = .ok z w) (hlen : vs.length = len) (hsm : Nat.ble (len * q) 16777216 = true) (hpos : Nat.blt 0 (len * q) = true)
    (hv : ∀ v ∈ vs, v.cells.size = q) {cs : List Value} (hcs : (vs.flatMap fun v => v.cells.toList) = cs) :
    Eff P N o l C fun u w1 => ∃ w' b, C w' ∧ b = w'.heap.size ∧ u = .slice (some ⟨b, 0, none⟩) len len ∧ w1 = w'.alloc (.cells cs.toArray e) := by
  intro w' hw a n hs
  refine .inl ⟨.slice (some ⟨w'.heap.size, 0, none⟩) len len, w'.alloc (.cells cs.toArray e), n, Nat.le_refl _, ?_, w', _, hw, rfl, rfl, rfl⟩
  simp only [execOp, hop]
  refine run_v ?_
  have h1 : (ps.toArray.map fun (i, x) => (i, a.eval x)) = (partsFrom 0 vs).toArray := by rw [List.map_toArray, hs.evalPs hx]
  have h2 : ¬ (16777216 < len * q) := by have := Nat.le_of_ble_eq_true hsm; omega
  have hp : 0 < len * q := by simpa [Nat.blt_eq] using hpos
  have h3 : ¬ (len * q = 0) := by omega
  have hf := fill_from q vs 0 [] ((Array.range (len * q)).map (z.cells[· % z.cells.size]!)).toList hv (by simp) (by simp [hlen])
  simp only [List.nil_append, hcs, Array.toArray_toList] at hf
  simp only [h1]
  simp [Instr.buildSlice, hu _, hz _, h2, h3, hzero _, hf, newRow]; rfl

theorem Eff.buildEmpty {t e : TypeId} {q : Nat} (hop : o.op = .buildSlice t 0 #[]) (hu : ∀ w, (underlying t).run P w = .ok (.slice e) w) (hz : ∀ w, (sizeOf e).run P w = .ok q w) :
    Eff P N o l C fun u w1 => ∃ w' b, C w' ∧ b = w'.heap.size ∧ u = .slice (some ⟨b, 0, none⟩) 0 0 ∧ w1 = w'.alloc (.cells #[] e) := by
  intro w' hw a n hs
  refine .inl ⟨.slice (some ⟨w'.heap.size, 0, none⟩) 0 0, w'.alloc (.cells #[] e), n, Nat.le_refl _, ?_, w', _, hw, rfl, rfl, rfl⟩
  simp only [execOp, hop]
  refine run_v ?_
  simp [Instr.buildSlice, hu _, hz _, Instr.fill, newRow]
  rw [show Array.range 0 = #[] from rfl, Array.map_empty]; rfl

theorem Eff.makeMap {t : TypeId} (hop : o.op = .makeMap t none) : Eff P N o l C fun u w1 => ∃ w' b, C w' ∧ b = w'.heap.size ∧ u = .map (some b) ∧ w1 = w'.alloc (.map #[] 0) := by
  intro w' hw a n hs
  refine .inl ⟨.map (some w'.heap.size), w'.alloc (.map #[] 0), n, Nat.le_refl _, ?_, w', _, hw, rfl, rfl, rfl⟩
  simp only [execOp, hop]
  refine run_v ?_
  simp [Instr.makeMap]; rfl

theorem Yield.build {t : TypeId} {ps : List (Nat × Operand)} {vs : List (Nat × Value)} {cells : Array Value} (hop : o.op = .build t ps.toArray) (hx : evalPs l ps = some vs) (hb : P.built t vs = some cells) : Yield P N o l w (.agg cells) := by
  intro a n hs
  simp only [execOp, hop]
  refine run_v ?_
  have h1 : (ps.toArray.map fun (i, x) => (i, a.eval x)) = vs.toArray := by rw [List.map_toArray, hs.evalPs hx]
  rw [h1]
  exact run_build _ t vs.toArray cells (by simpa using hb)

theorem Yield.makeFunc {f : Go.Fn} {fi ca : List Operand} {vf vc : List Value} (hop : o.op = .makeFunc f fi.toArray ca.toArray) (h1 : evalEs l fi = some vf) (h2 : evalEs l ca = some vc) : Yield P N o l w (.func f vf.toArray vc.toArray) := by
  intro a n hs
  simp only [execOp, hop]
  refine run_v ?_
  rw [List.map_toArray, List.map_toArray, hs.evals h1, hs.evals h2]
  rfl

/-- a store of one cell into a block that is known -/
theorem Eff.store {t : TypeId} {x y : Operand} {b i : Nat} {v : Value} (hop : o.op = .store t x y) (hx : evalE l x = some (.pointer (some ⟨b, i, none⟩))) (hy : evalE l y = some v) (hz : ∀ w, (sizeOf t).run P w = .ok 1 w) (hv : v.oneCell' = true)
    (hb : ∀ w', C w' → ∃ cs T, w'.heap[b]? = some (.cells cs T (0, 0)) ∧ Nat.blt i cs.size = true) :
    Eff P N o l C fun _ w1 => ∃ w', C w' ∧ w1 = w'.setCell ⟨b, i, none⟩ v := by
  intro w' hw a n hs
  obtain ⟨cs, T, hcs, hi0⟩ := hb w' hw
  have hi : i < cs.size := by simpa [Nat.blt_eq] using hi0
  refine .inr (.inl ⟨w'.setCell ⟨b, i, none⟩ v, n, Nat.le_refl _, ?_, w', hw, rfl⟩)
  simp only [execOp, hop]
  rw [hs.eval hx, hs.eval hy]
  refine run_u ?_
  have hc : v.cells = #[v] := by cases v <;> first | rfl | cases hv
  have hcell : (w'.drewN n).cell? ⟨b, i, none⟩ = some cs[i] := cell_get (w := w') hcs (by simp [hi])
  have hfr : (w'.drewN n).frozen? ⟨b, i, none⟩ = false := by
    show w'.frozen? _ = false
    simp [World.frozen?, hcs]
  have hadd : (⟨b, i, none⟩ : Addr).add 0 = ⟨b, i, none⟩ := by simp [Addr.add]
  simp [Instr.storeAt, Instr.sureAddr, storeVar, hc, hz _, storeCells, run_store, hv, hcell, hfr, hadd]; rfl

/-- a store of a struct over a whole run of cells of a block that is known -/
theorem Eff.storeAgg {t : TypeId} {x y : Operand} {b i : Nat} {vs : List Value} (hop : o.op = .store t x y) (hx : evalE l x = some (.pointer (some ⟨b, i, none⟩))) (hy : evalE l y = some (.agg vs.toArray)) (hz : ∀ w, (sizeOf t).run P w = .ok vs.length w) (hv : ∀ v ∈ vs, v.oneCell' = true)
    (hb : ∀ w', C w' → ∃ cs T, w'.heap[b]? = some (.cells cs T (0, 0)) ∧ i + vs.length ≤ cs.size) :
    Eff P N o l C fun _ w1 => ∃ w' cs T, C w' ∧ w'.heap[b]? = some (.cells cs T (0, 0)) ∧ i + vs.length ≤ cs.size ∧ w1 = w'.setRow b (cs.toList.take i ++ vs ++ cs.toList.drop (i + vs.length)).toArray := by
  intro w' hw a n hs
  obtain ⟨cs, T, hcs, hi⟩ := hb w' hw
  refine .inr (.inl ⟨w'.setRow b (cs.toList.take i ++ vs ++ cs.toList.drop (i + vs.length)).toArray, n, Nat.le_refl _, ?_, w', cs, T, hw, hcs, hi, rfl⟩)
  simp only [execOp, hop]
  rw [hs.eval hx, hs.eval hy]
  refine run_u ?_
  have hst := run_storeCells_at P b i T vs 0 cs (w'.drewN n) hcs (by simpa using hi) hv
  simp only [Nat.add_zero] at hst
  generalize (cs.toList.take i ++ vs ++ cs.toList.drop (i + vs.length)).toArray = arr at hst
  simp [Instr.storeAt, Instr.sureAddr, storeVar, Value.cells, hz _, hst]; rfl

theorem src_cells {tx e' : TypeId} {size : Nat} (hk : P.underlying tx = some (.slice e')) {A : Option Addr} {m c : Nat} {news : List Value} (hl : news.length = m * size) (hsz : 0 < size) (hc : Cells w A news) (h1 : ∀ u ∈ news, u.oneCell' = true) :
    ∀ q, Src P size tx (.slice A m c) m news (w.drewN q) := by
  intro q
  cases A with
  | none =>
    have : news = [] := by
      cases news with
      | nil => rfl
      | cons a r => obtain ⟨_, h, _⟩ := hc 0 a rfl; cases h
    subst this
    have : m = 0 := by
      simp only [List.length_nil] at hl
      rcases Nat.mul_eq_zero.1 hl.symm with h | h
      · exact h
      · omega
    subst this
    exact Src.ofNil _ hk c
  | some ad => exact Src.ofSlice _ hk ad m c news hl hc.some h1
theorem src_string {tx : TypeId} (hk : P.underlying tx = some .string) (s : ByteArray) : ∀ q, Src P 1 tx (.string s) s.size (byteCells s) (w.drewN q) := fun _ => Src.ofString _ hk s

theorem Eff.append {t tx e : TypeId} {s x : Operand} {i : TypeInfo} {z : Value} {size bytes : Nat} {v u : Value} {n m : Nat} {xs news : List Value} (hop : o.op = .call { callee := .builtin .append, args := #[s, x], argTypes := #[t, tx] })
    (hs' : evalE l s = some v) (hx : evalE l x = some u) (ht : P.underlying t = some (.slice e)) (hi : P.info? e = some i) (hz : i.zero = some z) (hsize : i.size = size) (hby : i.bytes = bytes) (hzs : z.cells.size = size)
    (hr : ∀ w', C w' → Row w' e size v n xs) (hsrc : ∀ w', C w' → ∀ q, Src P size tx u m news (w'.drewN q)) (h63 : n + m ≤ maxLen) (hbytes : (n + m) * bytes ≤ 140737488355328) :
    Eff P N o l C fun v' w1 => ∃ w', C w' ∧ Row w1 e size v' (n + m) (xs ++ news) ∧ Only (fun k => v.ownBlock = some k) w' w1 ∧ (v'.ownBlock = v.ownBlock ∨ v'.ownBlock = some w'.heap.size) ∧ (v' = .slice none 0 0 ↔ v = .slice none 0 0 ∧ m = 0) := by
  intro w' hw a q hs
  have hsr : Src P size tx u m news (w'.drewN q) := hsrc w' hw q
  obtain ⟨v', w1, q2, hq2, hrun, h1, h2, h3, h4⟩ := run_append_row (P := P) q t tx o.type e i z size bytes ht hi hz hsize hby hzs (hr w' hw) hsr h63 hbytes
  refine .inl ⟨v', w1, q2, hq2, ?_, w', hw, h1, h2, h3, h4⟩
  have e1 : execOp a.eval o = builtin .append #[t, tx] o.type (#[s, x].map fun | .const _ => true | _ => false) (#[s, x].map a.eval) := by
    simp only [execOp, hop]; rfl
  rw [e1]
  have e2 : (#[s, x].map a.eval) = #[v, u] := by simp [hs.eval hs', hs.eval hx]
  rw [e2]
  simp only [builtin]
  exact run_v hrun

/-! calls -/

theorem resolve_func {ρ : Operand → Value} {c : Call} {t : TypeId} {f : FuncId} {fi ca : Array Value} {x : Operand} (hc : c.callee = .value x) (hf : ρ x = .func (.func f) fi ca) : resolve ρ c t = (pure { target := .fn (.func f) ca, args := fi ++ c.args.map ρ } : Sem Deferred) := by
  unfold resolve; rw [hc]; simp only [hf]; rfl

theorem Eff.call {x : Operand} {f : FuncId} {fi ca : Array Value} {xs : List Operand} {ts : Array TypeId} {vs : List Value} {C2 : Value → World → Prop} (hop : o.op = .call { callee := .value x, args := xs.toArray, argTypes := ts }) (hf : evalE l x = some (.func (.func f) fi ca)) (hx : evalEs l xs = some vs)
    (hcall : ∀ args w, (callFunc f args).run P w = .ok (.enter f args) w) (hF : ∀ w', C w' → Fc P f (fi ++ vs.toArray ++ ca) w' C2) : Eff P N o l C C2 := by
  intro w' hw a n hs
  refine .inr (.inr ⟨f, fi ++ vs.toArray ++ ca, ?_, ?_⟩)
  · simp only [execOp, hop]
    rw [resolve_func rfl (hs.eval hf)]
    simp only [List.map_toArray, hs.evals hx]
    simp [invoke, hcall]
  · exact hF w' hw n

/-- a call of a function that is named -/
theorem Eff.fn {f : FuncId} {xs : List Operand} {ts : Array TypeId} {vs : List Value} {C2 : Value → World → Prop} (hop : o.op = .call { callee := .value (.func f), args := xs.toArray, argTypes := ts }) (hx : evalEs l xs = some vs)
    (hcall : ∀ args w, (callFunc f args).run P w = .ok (.enter f args) w) (hF : ∀ w', C w' → Fc P f vs.toArray w' C2) : Eff P N o l C C2 :=
  Eff.call (fi := #[]) (ca := #[]) hop rfl hx hcall fun w' hw => by simpa using hF w' hw

theorem YC.fn {f : FuncId} {xs : List Operand} {ts : Array TypeId} {vs : List Value} {v : Value} (hop : o.op = .call { callee := .value (.func f), args := xs.toArray, argTypes := ts }) (hx : evalEs l xs = some vs)
    (hcall : ∀ args w, (callFunc f args).run P w = .ok (.enter f args) w) (hF : ∀ w', C w' → Fc P f vs.toArray w' fun u w1 => u = v ∧ C w1) : YC P N o l C v := by
  intro w' hw a n hs
  refine .inr ⟨f, vs.toArray, ?_, ?_⟩
  · simp only [execOp, hop]
    rw [resolve_func (fi := #[]) (ca := #[]) (f := f) rfl rfl]
    simp only [List.map_toArray, hs.evals hx]
    simp [invoke, hcall]
  · exact Calls.mono (hF w' hw n) fun e w'' ⟨u, w1, m, hm, h1, h2, h3, h4⟩ => ⟨by rw [h1, h3], w1, m, hm, h4, h2⟩

/-! ### into a function, and out of it -/

def envFrom : Nat → List Value → Env
  | _, [] => []
  | i, v :: r => (i, v) :: envFrom (i + 1) r

theorem envFrom_get : ∀ (vs : List Value) (i t : Nat) (v : Value), (envFrom i vs).get t = some v → ∃ j, t = i + j ∧ vs[j]? = some v
  | [], _, _, _, h => by simp [envFrom, Env.get] at h
  | u :: r, i, t, v, h => by
    simp only [envFrom] at h
    by_cases e : i = t
    · subst e
      rw [Env.get_cons_same] at h
      exact ⟨0, by simp, by simpa using h⟩
    · rw [Env.get_cons_ne u _ e] at h
      obtain ⟨j, h1, h2⟩ := envFrom_get r (i + 1) t v h
      exact ⟨j + 1, by omega, by simpa using h2⟩

def Post (P : Program) (fn : Func) (K : Nat) (R : Value → World → Prop) : Exit → Act → World → Prop :=
  bodyPost P fn fun e w' => ∃ v w1 m, K ≤ m ∧ e = .returned v ∧ w' = w1.drewN m ∧ R v w1

theorem Fc.enter {f : FuncId} {fn : Func} {c : Code} {args : List Value} {R : Value → World → Prop} (hf : P.funcs[f]? = some fn) (hb : fn.body = some c) (hN : fn.ntmps = N) (hlen : Nat.ble args.length N = true) (h : ∀ K, W P N K c (Post P fn K R) (envFrom 0 args) w) :
    Fc P f args.toArray w R := by
  intro n
  refine calls_of_wp hf hb (h n _ n (Nat.le_refl _) ⟨rfl, ?_, fun t v ht => ?_⟩)
  · have := Nat.le_of_ble_eq_true hlen
    simp [hN]; omega
  · obtain ⟨j, rfl, hj⟩ := envFrom_get args 0 t v ht
    have : j < args.length := (List.getElem?_eq_some_iff.1 hj).1
    simp only [Nat.zero_add]
    rw [Array.getElem?_append_left (by simpa using this)]
    simpa using hj

theorem St.getD {N : Nat} {l : Env} {a : Act} (h : St N l a) {t : Nat} {v : Value} (hv : l.get t = some v) : a.tmps.getD t undef = v := by
  have := h.slots t v hv
  simp [Array.getD_eq_getD_getElem?, this]

/-- the results' slots hold these values -/
def resE (l : Env) : List ResultVar → Option (List Value)
  | [] => some []
  | .tmp t :: r => match l.get t, resE l r with
    | some v, some vs => some (v :: vs)
    | _, _ => none
  | _ :: _ => none

def resF (tmps : Array Value) : ResultVar → Sem Value
  | .tmp t => pure (tmps.getD t undef)
  | .cell a t => do loadVar t (← asAddr (tmps.getD a undef))

theorem resE_run {a : Act} (h : St N l a) : ∀ {rs : List ResultVar} {vs : List Value}, resE l rs = some vs → ∀ w : World, (rs.mapM (resF a.tmps)).run P w = .ok vs w
  | [], vs, hx, w => by simp only [resE, Option.some.injEq] at hx; subst hx; simp
  | .tmp t :: r, vs, hx, w => by
    simp only [resE] at hx
    split at hx
    · rename_i v us h1 h2
      simp only [Option.some.injEq] at hx
      subst hx
      have ih := resE_run h h2 w
      simp only [List.mapM_cons, resF, Sem.run_bind, Sem.run_pure, Result.andThen_ok, h.getD h1]
      rw [ih]; rfl
    · cases hx
  | .cell _ _ :: _, _, hx, _ => by simp [resE] at hx

def resV (vs : List Value) : Value := match vs with
  | [v] => v
  | _ => .tuple vs.toArray

theorem results_run {fn : Func} {a : Act} (h : St N l a) {rs : List ResultVar} {vs : List Value} (hr : fn.results = rs.toArray) (hx : resE l rs = some vs) (w : World) : (results fn a.tmps).run P w = .ok (resV vs) w := by
  have := resE_run (P := P) h hx w
  have e0 : results fn a.tmps = (do
      let vs ← fn.results.mapM (resF a.tmps)
      pure (if h : vs.size = 1 then vs[0] else .tuple vs) : Sem Value) := by
    unfold results
    congr 1
  rw [e0, hr]
  simp only [Sem.run_bind]
  have e : (rs.toArray.mapM (resF a.tmps)).run P w = .ok vs.toArray w := by
    rw [List.mapM_toArray]
    simp only [Sem.run_map, this]; rfl
  rw [e]
  simp only [Result.andThen_ok, Sem.run_pure]
  congr 1
  match vs with
  | [] => rfl
  | [v] => rfl
  | v :: u :: r => simp [resV]

theorem W.ret_post {fn : Func} {R : Value → World → Prop} {Q : Exit → Act → World → Prop} {rs : List ResultVar} {vs : List Value} (hQ : ∀ a w, Post P fn K R .ret a w → Q .ret a w) (hr : fn.results = rs.toArray) (hx : resE l rs = some vs) (h : R (resV vs) w) : W P N K .ret Q l w :=
  W.ret fun _ n hk hs => hQ _ _ ⟨hs.defers, resV vs, results_run hs hr hx _, resV vs, w, n, hk, rfl, rfl, h⟩

/-- the end of a body -/
theorem WL.end_post {fn : Func} {R : Value → World → Prop} {Q : Exit → Act → World → Prop} {ops : Array Oper} {rs : List ResultVar} {vs : List Value} (hQ : ∀ a w, Post P fn K R .normal a w → Q .normal a w) (hr : fn.results = rs.toArray) (hx : resE l rs = some vs) (h : R (resV vs) w) : WL P N K ops Q [] l w :=
  WL.nil fun _ n hk hs => hQ _ _ ⟨hs.defers, resV vs, results_run hs hr hx _, resV vs, w, n, hk, rfl, rfl, h⟩
theorem W.skip_post {fn : Func} {R : Value → World → Prop} {Q : Exit → Act → World → Prop} {rs : List ResultVar} {vs : List Value} (hQ : ∀ a w, Post P fn K R .normal a w → Q .normal a w) (hr : fn.results = rs.toArray) (hx : resE l rs = some vs) (h : R (resV vs) w) : W P N K .skip Q l w :=
  W.skip fun _ n hk hs => hQ _ _ ⟨hs.defers, resV vs, results_run hs hr hx _, resV vs, w, n, hk, rfl, rfl, h⟩
end
end Go.Lv
