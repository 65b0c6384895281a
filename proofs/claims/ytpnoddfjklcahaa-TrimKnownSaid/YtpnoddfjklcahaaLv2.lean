import Derived.Test.YtpnoddfjklcahaaLv1
set_option linter.all false
namespace Go.Lv
open Go.RowKit

/-! A region that draws its order: reads in whatever order, the operations that act in whatever order their edges allow, and a tail that is forced. -/

def Oper.noSelect (o : Oper) : Bool := match o.op with
  | .select .. => false
  | _ => true

theorem Oper.noSelect_spec {o : Oper} (h : Oper.noSelect o = true) : ∀ cs b, o.op ≠ .select cs b := by
  intro cs b e; simp [Oper.noSelect, e] at h

/-- which operations stand ahead of which, through others too, as bits -/
def maskOf (acc : List Nat) : List Edge → Nat
  | [] => 0
  | e :: r => if Region.binds .any e then (2 ^ e.on ||| acc.getD e.on 0) ||| maskOf acc r else maskOf acc r

def masks : List Oper → List Nat → List Nat
  | [], acc => acc
  | o :: r, acc => masks r (acc ++ [maskOf acc o.after.toList])

def reach (ops : Array Oper) (i j : Nat) : Bool := ((masks ops.toList []).getD i 0).testBit j

theorem maskOf_spec {acc : List Nat} {j : Nat} : ∀ {es : List Edge}, (maskOf acc es).testBit j = true →
    ∃ e ∈ es, Region.binds .any e = true ∧ (e.on = j ∨ (acc.getD e.on 0).testBit j = true)
  | [], h => by simp [maskOf] at h
  | e :: r, h => by
    simp only [maskOf] at h
    split at h
    · rename_i hb
      simp only [Nat.testBit_or, Bool.or_eq_true] at h
      rcases h with (h | h) | h
      · refine ⟨e, by simp, hb, .inl ?_⟩
        have := Nat.testBit_two_pow (n := e.on) (m := j)
        rw [this] at h; simpa using h
      · exact ⟨e, by simp, hb, .inr h⟩
      · obtain ⟨e', he', r'⟩ := maskOf_spec h
        exact ⟨e', by simp [he'], r'⟩
    · obtain ⟨e', he', r'⟩ := maskOf_spec h
      exact ⟨e', by simp [he'], r'⟩

/-- what is listed is listed with all that stands ahead of it -/
theorem masks_closed {ops : Array Oper} {p : Nat → Prop} (hcl : ∀ j oj, ops[j]? = some oj → p j → ∀ e ∈ oj.after, Region.binds .any e = true → p e.on) :
    ∀ (r : List Oper) (acc : List Nat), (∀ j, j < r.length → r[j]? = ops[acc.length + j]?) →
      (∀ i, i < acc.length → ∀ o, ops[i]? = some o → (∀ e ∈ o.after, Region.binds .any e = true → p e.on) → ∀ j, (acc.getD i 0).testBit j = true → p j) →
      ∀ i o, ops[i]? = some o → (∀ e ∈ o.after, Region.binds .any e = true → p e.on) → ∀ j, ((masks r acc).getD i 0).testBit j = true → p j
  | [], acc, _, H, i, o, ho, hp, j, hj => by
    simp only [masks] at hj
    rcases Nat.lt_or_ge i acc.length with h | h
    · exact H i h o ho hp j hj
    · simp [List.getD, List.getElem?_eq_none h] at hj
  | o :: r, acc, hr, H, i, o', ho', hp', j, hj => by
    simp only [masks] at hj
    refine masks_closed hcl r (acc ++ [maskOf acc o.after.toList]) (fun k hk => ?_) (fun k hk ok hok hpk q hq => ?_) i o' ho' hp' j hj
    · have := hr (k + 1) (by simpa using hk)
      simpa [Nat.add_assoc, Nat.add_comm 1 k] using this
    · rcases Nat.lt_or_ge k acc.length with h | h
      · have e3 : (acc ++ [maskOf acc o.after.toList]).getD k 0 = acc.getD k 0 := by simp [List.getD, List.getElem?_append_left h]
        rw [e3] at hq
        exact H k h ok hok hpk q hq
      · have e : k = acc.length := by simp at hk; omega
        subst e
        have h0 : ops[acc.length]? = some o := by have := hr 0 (by simp); simpa using this.symm
        have : ok = o := Option.some.inj (hok.symm.trans h0)
        subst this
        have e2 : (acc ++ [maskOf acc ok.after.toList]).getD acc.length 0 = maskOf acc ok.after.toList := by simp [List.getD]
        rw [e2] at hq
        obtain ⟨e, he, hb, h1⟩ := maskOf_spec hq
        have hpe : p e.on := hpk e (by simpa using he) hb
        rcases h1 with h1 | h1
        · rw [← h1]; exact hpe
        · rcases Nat.lt_or_ge e.on acc.length with h2 | h2
          · cases hoe : ops[e.on]? with
            | none =>
              have hlt : acc.length < ops.size := (Array.getElem?_eq_some_iff.1 h0).1
              have : ops.size ≤ e.on := by
                rcases Nat.lt_or_ge e.on ops.size with h3 | h3
                · rw [Array.getElem?_eq_getElem h3] at hoe; cases hoe
                · exact h3
              omega
            | some oe => exact H e.on h2 oe hoe (hcl e.on oe hoe hpe) q h1
          · simp [List.getD, List.getElem?_eq_none h2] at h1

theorem reach_closed {ops : Array Oper} {p : Nat → Prop} (hcl : ∀ j oj, ops[j]? = some oj → p j → ∀ e ∈ oj.after, Region.binds .any e = true → p e.on)
    {i : Nat} {o : Oper} (ho : ops[i]? = some o) (hp : ∀ e ∈ o.after, Region.binds .any e = true → p e.on) {j : Nat} (h : reach ops i j = true) : p j :=
  masks_closed hcl ops.toList [] (fun k _ => by simp) (fun k hk => by simp at hk) i o ho hp j h

/-- the head's temporaries: each written once, read behind its writer alone -/
def headB (ops : Array Oper) (m : Nat) : Bool :=
  decide (m ≤ ops.size) && (List.range m).all fun i => match ops[i]? with
    | none => false
    | some o => Oper.noSelect o && (o.after.all fun e => !Region.binds .any e || decide (e.on < i)) &&
      ((o.looksAt ops).all fun t => (List.range m).all fun j => match ops[j]? with
          | some oj => oj.dst != some t || reach ops i j
          | none => false) &&
      ((List.range m).all fun j => i == j || o.dst == none || (match ops[j]? with | some oj => oj.dst != o.dst | none => false))

structure HeadAt (ops : Array Oper) (m i : Nat) (o : Oper) : Prop where
  op : ops[i]? = some o
  sel : ∀ cs b, o.op ≠ .select cs b
  back : ∀ e ∈ o.after, Region.binds .any e = true → e.on < i
  looks : ∀ t ∈ o.looksAt ops, ∀ j oj, j < m → ops[j]? = some oj → oj.dst = some t → reach ops i j = true
  once : ∀ j oj d, j < m → ops[j]? = some oj → i ≠ j → o.dst = some d → oj.dst ≠ some d

theorem headB_spec {ops : Array Oper} {m : Nat} (h : headB ops m = true) : m ≤ ops.size ∧ ∀ i, i < m → ∃ o, HeadAt ops m i o := by
  simp only [headB, Bool.and_eq_true, decide_eq_true_eq, List.all_eq_true, List.mem_range] at h
  refine ⟨h.1, fun i hi => ?_⟩
  have h1 := h.2 i hi
  cases ho : ops[i]? with
  | none => simp [ho] at h1
  | some o =>
    simp only [ho, Bool.and_eq_true] at h1
    obtain ⟨⟨⟨h2, h3⟩, h4⟩, h5⟩ := h1
    refine ⟨o, ho, Oper.noSelect_spec h2, fun e he hb => ?_, fun t ht j oj hj hoj hd => ?_, fun j oj d hj hoj hij hdd => ?_⟩
    · have := Array.all_eq_true_iff_forall_mem.1 h3 e he
      simpa [hb] using this
    · have := List.all_eq_true.1 h4 t ht
      have := List.all_eq_true.1 this j (List.mem_range.2 hj)
      simpa [hoj, hd] using this
    · have := List.all_eq_true.1 h5 j (List.mem_range.2 hj)
      simp only [hoj, hdd, Bool.or_eq_true, beq_iff_eq, bne_iff_ne] at this
      rcases this with (h | h) | h
      · exact absurd h hij
      · cases h
      · exact h

section
variable {P : Program} {N : Nat}

/-- an operation that, in whatever world of a class, hands v and stays in the class -/
def YC (P : Program) (N : Nat) (o : Oper) (l : Env) (C : World → Prop) (v : Value) : Prop :=
  ∀ w', C w' → ∀ a n, St N l a →
    (execOp a.eval o).run P (w'.drewN n) = .ok (.value v) (w'.drewN n) ∨
    ∃ f args, (execOp a.eval o).run P (w'.drewN n) = .ok (.enter f args) (w'.drewN n) ∧
      Calls P f args (w'.drewN n) fun e w'' => e = .returned v ∧ ∃ w1 m, n ≤ m ∧ C w1 ∧ w'' = w1.drewN m

theorem YC.read {o : Oper} {l : Env} {C : World → Prop} {v : Value} (h : ∀ w', C w' → Yield P N o l w' v) : YC P N o l C v :=
  fun w' hw a n hs => .inl (h w' hw a n hs)

/-- an operation that acts: from class C to the class C2 v -/
def Eff (P : Program) (N : Nat) (o : Oper) (l : Env) (C : World → Prop) (C2 : Value → World → Prop) : Prop :=
  ∀ w', C w' → ∀ a n, St N l a →
    (∃ v w1 m, n ≤ m ∧ (execOp a.eval o).run P (w'.drewN n) = .ok (.value v) (w1.drewN m) ∧ C2 v w1) ∨
    (∃ w1 m, n ≤ m ∧ (execOp a.eval o).run P (w'.drewN n) = .ok .skip (w1.drewN m) ∧ C2 undef w1) ∨
    ∃ f args, (execOp a.eval o).run P (w'.drewN n) = .ok (.enter f args) (w'.drewN n) ∧
      Calls P f args (w'.drewN n) fun e w'' => ∃ v w1 m, n ≤ m ∧ e = .returned v ∧ w'' = w1.drewN m ∧ C2 v w1

def putE (d : Option Tmp) (v : Value) (l : Env) : Env := match d with
  | some d => (d, v) :: l
  | none => l

def okN (N : Nat) (d : Option Tmp) : Bool := match d with
  | some d => Nat.blt d N
  | none => true

theorem St.putE {N : Nat} {l : Env} {a : Act} (h : St N l a) {d : Option Tmp} (hd : okN N d = true) (v : Value) : St N (putE d v l) (a.put d v) := by
  cases d with
  | none => exact h
  | some d => exact h.put (by simpa [okN, Nat.blt_eq] using hd) v

structure Rec where
  i : Nat
  l : Env
  b : Bool
  v : Value

def Rec.ok (P : Program) (N : Nat) (ops : Array Oper) (C : World → Prop) (r : Rec) : Prop := ∀ o, ops[r.i]? = some o → r.b = true → YC P N o r.l C r.v

/-- those that an effect does not wait for are as good behind it -/
def AllP (P : Program) (N : Nat) (ops : Array Oper) (e : Nat) (C : World → Prop) : List Rec → Prop
  | [] => True
  | r :: s => (reach ops e r.i = true ∨ r.ok P N ops C) ∧ AllP P N ops e C s

theorem AllP.mem {ops : Array Oper} {e : Nat} {C : World → Prop} : ∀ {s : List Rec}, AllP P N ops e C s → ∀ r ∈ s, reach ops e r.i = true ∨ r.ok P N ops C
  | [], _, r, hr => by cases hr
  | q :: s, h, r, hr => by
    rcases List.mem_cons.1 hr with rfl | hr
    · exact h.1
    · exact AllP.mem h.2 r hr

def readyL (ops : Array Oper) (m : Nat) (done : List Nat) : List Nat :=
  (List.range m).filter fun i => !done.contains i && match ops[i]? with
    | some o => o.after.all fun e => !Region.binds .any e || done.contains e.on
    | none => false

/-- the walk through the head: every road that the edges leave to the operations that act -/
inductive HT (P : Program) (N : Nat) (ops : Array Oper) (m : Nat) (T : Env → World → Prop) : List Nat → List Rec → Env → (World → Prop) → Prop where
  | fin {done : List Nat} {recs : List Rec} {l : Env} {C : World → Prop} (hall : (List.range m).all (done.contains ·) = true) (h : ∀ w', C w' → T l w') : HT P N ops m T done recs l C
  | read {done : List Nat} {recs : List Rec} {l : Env} {C : World → Prop} {i d : Nat} {o : Oper} {v : Value} (hi : (readyL ops m done).contains i = true) (ho : ops[i]? = some o) (hd : o.dst = some d) (hN : Nat.blt d N = true)
      (hg : guardE ops l o.guard = some true) (hy : YC P N o l C v) (h : HT P N ops m T (i :: done) (⟨i, l, true, v⟩ :: recs) ((d, v) :: l) C) : HT P N ops m T done recs l C
  | skip {done : List Nat} {recs : List Rec} {l : Env} {C : World → Prop} {i d : Nat} {o : Oper} (hi : (readyL ops m done).contains i = true) (ho : ops[i]? = some o) (hd : o.dst = some d) (hN : Nat.blt d N = true)
      (hg : guardE ops l o.guard = some false) (h : HT P N ops m T (i :: done) (⟨i, l, false, undef⟩ :: recs) ((d, undef) :: l) C) : HT P N ops m T done recs l C
  | eff {done : List Nat} {recs : List Rec} {l : Env} {C : World → Prop} (hne : ((List.range m).all (done.contains ·)) = false) (O : Nat → Oper) (C2 : Nat → Value → World → Prop)
      (h1 : ∀ i ∈ readyL ops m done, ops[i]? = some (O i) ∧ okN N (O i).dst = true ∧ guardE ops l (O i).guard = some true ∧ Eff P N (O i) l C (C2 i))
      (h2 : ∀ i ∈ readyL ops m done, ∀ v, (∃ w', C2 i v w') → AllP P N ops i (C2 i v) recs)
      (h3 : ∀ i ∈ readyL ops m done, ∀ v, (∃ w', C2 i v w') → HT P N ops m T (i :: done) recs (putE (O i).dst v l) (C2 i v)) : HT P N ops m T done recs l C
  | effS {done : List Nat} {recs : List Rec} {l : Env} {C : World → Prop} {i : Nat} {o : Oper} (R : Value → World → Prop) (hr : readyL ops m done = [i]) (ho : ops[i]? = some o) (hN : okN N o.dst = true) (hg : guardE ops l o.guard = some true) (he : Eff P N o l C R)
      (hp : ∀ v w1, R v w1 → AllP P N ops i (w1 = ·) recs) (h : ∀ v w1, R v w1 → HT P N ops m T (i :: done) recs (putE o.dst v l) (w1 = ·)) : HT P N ops m T done recs l C
  | effM {done : List Nat} {recs : List Rec} {l : Env} {C : World → Prop} (hne : ((List.range m).all (done.contains ·)) = false) (O : Nat → Oper) (R : Nat → Value → World → Prop)
      (h1 : ∀ i ∈ readyL ops m done, ops[i]? = some (O i) ∧ okN N (O i).dst = true ∧ guardE ops l (O i).guard = some true ∧ Eff P N (O i) l C (R i))
      (h2 : ∀ i ∈ readyL ops m done, ∀ v w1, R i v w1 → AllP P N ops i (w1 = ·) recs)
      (h3 : ∀ i ∈ readyL ops m done, ∀ v w1, R i v w1 → HT P N ops m T (i :: done) recs (putE (O i).dst v l) (w1 = ·)) : HT P N ops m T done recs l C

variable {ops : Array Oper} {m : Nat} {T : Env → World → Prop}

theorem ready_not_all {done : List Nat} {i : Nat} (hm : i ∈ readyL ops m done) : ((List.range m).all (done.contains ·)) = false := by
  cases hh : (List.range m).all (done.contains ·) with
  | false => rfl
  | true =>
    exfalso
    simp only [readyL, List.mem_filter, List.mem_range, Bool.and_eq_true] at hm
    have h1 := List.all_eq_true.1 hh i (List.mem_range.2 hm.1)
    have h2 := hm.2.1
    rw [h1] at h2; cases h2

theorem HT.eff1 {done : List Nat} {recs : List Rec} {l : Env} {C : World → Prop} {i : Nat} {o : Oper} (C2 : Value → World → Prop) (hr : readyL ops m done = [i]) (ho : ops[i]? = some o) (hN : okN N o.dst = true)
    (hg : guardE ops l o.guard = some true) (he : Eff P N o l C C2)
    (hp : ∀ v, (∃ w', C2 v w') → AllP P N ops i (C2 v) recs) (h : ∀ v, (∃ w', C2 v w') → HT P N ops m T (i :: done) recs (putE o.dst v l) (C2 v)) : HT P N ops m T done recs l C := by
  refine .eff (ready_not_all (i := i) (by rw [hr]; simp)) (fun _ => o) (fun _ => C2) (fun j hj => ?_) (fun j hj => ?_) (fun j hj => ?_) <;>
  · rw [hr] at hj
    simp only [List.mem_singleton] at hj
    subst hj
    first | exact ⟨ho, hN, hg, he⟩ | exact hp | exact h

theorem HT.eff2 {done : List Nat} {recs : List Rec} {l : Env} {C : World → Prop} {i j : Nat} {oi oj : Oper} (Ci Cj : Value → World → Prop) (hr : readyL ops m done = [i, j]) (hij : i ≠ j)
    (hoi : ops[i]? = some oi) (hNi : okN N oi.dst = true) (hgi : guardE ops l oi.guard = some true) (hei : Eff P N oi l C Ci)
    (hpi : ∀ v, (∃ w', Ci v w') → AllP P N ops i (Ci v) recs) (hi : ∀ v, (∃ w', Ci v w') → HT P N ops m T (i :: done) recs (putE oi.dst v l) (Ci v))
    (hoj : ops[j]? = some oj) (hNj : okN N oj.dst = true) (hgj : guardE ops l oj.guard = some true) (hej : Eff P N oj l C Cj)
    (hpj : ∀ v, (∃ w', Cj v w') → AllP P N ops j (Cj v) recs) (hj : ∀ v, (∃ w', Cj v w') → HT P N ops m T (j :: done) recs (putE oj.dst v l) (Cj v)) : HT P N ops m T done recs l C := by
  refine .eff (ready_not_all (i := i) (by rw [hr]; simp)) (fun q => if q = i then oi else oj) (fun q => if q = i then Ci else Cj) (fun q hq => ?_) (fun q hq => ?_) (fun q hq => ?_) <;>
  · rw [hr] at hq
    simp only [List.mem_cons, List.not_mem_nil, or_false] at hq
    rcases hq with rfl | rfl
    · simp only [if_true]; first | exact ⟨hoi, hNi, hgi, hei⟩ | exact hpi | exact hi
    · simp only [if_neg (Ne.symm hij)]; first | exact ⟨hoj, hNj, hgj, hej⟩ | exact hpj | exact hj

theorem AllP.nil {e : Nat} {C : World → Prop} : AllP P N ops e C [] := trivial
theorem AllP.ahead {e : Nat} {C : World → Prop} {r : Rec} {s : List Rec} (h : reach ops e r.i = true) (hs : AllP P N ops e C s) : AllP P N ops e C (r :: s) := ⟨.inl h, hs⟩
theorem AllP.skip {e i : Nat} {C : World → Prop} {l : Env} {v : Value} {s : List Rec} (hs : AllP P N ops e C s) : AllP P N ops e C (⟨i, l, false, v⟩ :: s) := ⟨.inr (fun _ _ hb => by cases hb), hs⟩
theorem AllP.ok {e i : Nat} {C : World → Prop} {l : Env} {v : Value} {s : List Rec} {o : Oper} (ho : ops[i]? = some o) (h : YC P N o l C v) (hs : AllP P N ops e C s) : AllP P N ops e C (⟨i, l, true, v⟩ :: s) :=
  ⟨.inr fun o' ho' _ => by have : o' = o := Option.some.inj (ho'.symm.trans ho); subst this; exact h, hs⟩
theorem AllP.rd {e i : Nat} {w1 : World} {l : Env} {v : Value} {s : List Rec} {o : Oper} (ho : ops[i]? = some o) (h : Yield P N o l w1 v) (hs : AllP P N ops e (w1 = ·) s) : AllP P N ops e (w1 = ·) (⟨i, l, true, v⟩ :: s) :=
  AllP.ok ho (YC.read (by rintro _ rfl; exact h)) hs

theorem Env.get_cons_same (d : Nat) (v : Value) (l : Env) : Env.get ((d, v) :: l) d = some v := by simp [Env.get]
theorem Env.get_cons_ne {d t : Nat} (v : Value) (l : Env) (h : d ≠ t) : Env.get ((d, v) :: l) t = Env.get l t := by
  have hb : Nat.beq d t = false := by rw [Bool.eq_false_iff]; intro hh; exact h (Nat.eq_of_beq_eq_true hh)
  simp [Env.get, hb]
theorem putE_get_ne {d : Option Tmp} {t : Nat} (v : Value) (l : Env) (h : d ≠ some t) : Env.get (putE d v l) t = Env.get l t := by
  cases d with
  | none => rfl
  | some d => exact Env.get_cons_ne v l (fun e => h (by rw [e]))

/-- a frame with the slots of a list laid into it -/
def patch : Env → Act → Act
  | [], a => a
  | (t, v) :: r, a => (patch r a).put (some t) v

theorem patch_defers : ∀ (l : Env) (a : Act), (patch l a).defers = a.defers
  | [], _ => rfl
  | _ :: r, a => by simp only [patch, Act.put]; exact patch_defers r a
theorem patch_size : ∀ (l : Env) (a : Act), (patch l a).tmps.size = a.tmps.size
  | [], _ => rfl
  | _ :: r, a => by simp only [patch, Act.put, Array.size_setIfInBounds]; exact patch_size r a
theorem patch_get : ∀ (l : Env) (a : Act) (t : Nat) (v : Value), l.get t = some v → t < a.tmps.size → (patch l a).tmps[t]? = some v
  | [], _, _, _, h, _ => by simp [Env.get] at h
  | (i, u) :: r, a, t, v, h, ht => by
    by_cases e : i = t
    · subst e
      rw [Env.get_cons_same] at h
      simp only [Option.some.injEq] at h
      subst h
      simp [patch, Act.put, patch_size, ht]
    · rw [Env.get_cons_ne u r e] at h
      simp only [patch, Act.put, Array.getElem?_setIfInBounds_ne e]
      exact patch_get r a t v h ht
theorem patch_other : ∀ (l : Env) (a : Act) (t : Nat), l.get t = none → (patch l a).tmps[t]? = a.tmps[t]?
  | [], _, _, _ => rfl
  | (i, u) :: r, a, t, h => by
    by_cases e : i = t
    · subst e; rw [Env.get_cons_same] at h; cases h
    · rw [Env.get_cons_ne u r e] at h
      simp only [patch, Act.put, Array.getElem?_setIfInBounds_ne e]
      exact patch_other r a t h

theorem patch_st {l : Env} {a : Act} (hd : a.defers = []) (hN : a.tmps.size = N) (hl : ∀ t v, l.get t = some v → t < N) : St N l (patch l a) :=
  ⟨by rw [patch_defers, hd], by rw [patch_size, hN], fun t v h => patch_get l a t v h (by rw [hN]; exact hl t v h)⟩

/-- an operation looks at its own slots alone -/
theorem patch_same {l : Env} {a : Act} {o : Oper} (hsel : ∀ cs b, o.op ≠ .select cs b) (hN : a.tmps.size = N) (hl : ∀ t v, l.get t = some v → t < N)
    (hlook : ∀ t ∈ o.looksAt ops, ∀ v, l.get t = some v → a.tmps[t]? = some v) :
    execOp (patch l a).eval o = execOp a.eval o ∧ Region.wanted o (yielded ops (patch l a).tmps) = Region.wanted o (yielded ops a.tmps) := by
  have slot : ∀ t ∈ o.looksAt ops, (patch l a).tmps[t]? = a.tmps[t]? := fun t ht => by
    cases hg : l.get t with
    | none => exact patch_other l a t hg
    | some v => rw [hlook t ht v hg]; exact patch_get l a t v hg (by rw [hN]; exact hl t v hg)
  constructor
  · refine execOp_congr o hsel fun x hx => ?_
    cases x with
    | tmp t =>
      have ht : t ∈ o.looksAt ops := by
        unfold Oper.looksAt
        exact List.mem_append_left _ (List.mem_filterMap.2 ⟨.tmp t, by simpa using hx, rfl⟩)
      simp [Act.eval, Array.getD_eq_getD_getElem?, slot t ht]
    | const v => rfl
    | global g => rfl
    | func f => rfl
  · unfold Region.wanted
    cases hg : o.guard with
    | none => rfl
    | some gw =>
      obtain ⟨g, want⟩ := gw
      have : yielded ops (patch l a).tmps g = yielded ops a.tmps g := by
        unfold yielded
        cases ht : (ops[g]?).bind (·.dst) with
        | none => rfl
        | some t =>
          have hm : t ∈ o.looksAt ops := by
            unfold Oper.looksAt
            refine List.mem_append_right _ ?_
            simp [hg, ht]
          simp [slot t hm]
      simp only [this]
end
end Go.Lv
