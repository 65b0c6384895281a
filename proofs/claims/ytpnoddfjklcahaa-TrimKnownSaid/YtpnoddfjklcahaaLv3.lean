import Derived.Test.YtpnoddfjklcahaaLv2
set_option linter.all false
namespace Go.Lv
open Go.RowKit
section
variable {P : Program} {N K : Nat} {ops : Array Oper} {m : Nat} {T : Env → World → Prop} {Q : Exit → Act → World → Prop}

/-- what is known of a place in the walk, whatever was carried out -/
structure Node (N : Nat) (ops : Array Oper) (m : Nat) (l0 : Env) (done : List Nat) (recs : List Rec) (l : Env) : Prop where
  lt : ∀ t v, l.get t = some v → t < N
  old : ∀ t, (∀ i o, i < m → ops[i]? = some o → o.dst ≠ some t) → l.get t = l0.get t
  dn : ∀ i, i ∈ done → i < m ∧ ∀ o, ops[i]? = some o → ∀ e ∈ o.after, Region.binds .any e = true → e.on ∈ done
  recd : ∀ r ∈ recs, r.i < m ∧ r.i ∈ done ∧ ∃ o d, ops[r.i]? = some o ∧ o.dst = some d ∧ guardE ops r.l o.guard = some r.b ∧ (r.b = false → r.v = undef) ∧ l.get d = some r.v ∧
    (∀ t v, r.l.get t = some v → t < N) ∧ ∀ t ∈ o.looksAt ops, r.l.get t = l.get t

structure HJ (P : Program) (N K : Nat) (ops : Array Oper) (m : Nat) (l0 : Env) (done : List Nat) (recs : List Rec) (l : Env) (C : World → Prop) (listed : Array Bool) (a : Act) (w' : World) : Prop where
  inv : HeadInv .any ops m listed
  defers : a.defers = []
  size : a.tmps.size = N
  sub : ∀ i, i < m → listed.getD i false = true → i ∈ done
  slots : ∀ i o d, i < m → ops[i]? = some o → o.dst = some d → listed.getD i false = true → a.tmps[d]? = l.get d
  others : ∀ t v, l0.get t = some v → (∀ i o, i < m → ops[i]? = some o → o.dst ≠ some t) → a.tmps[t]? = some v
  cls : ∃ w0 n, K ≤ n ∧ C w0 ∧ w' = w0.drewN n
  pend : ∀ i, i ∈ done → listed.getD i false = false → ∃ r ∈ recs, r.i = i ∧ r.ok P N ops C

theorem reach_done {l0 : Env} {done : List Nat} {recs : List Rec} {l : Env} (nd : Node N ops m l0 done recs l) {i : Nat} (hi : i ∈ done) {j : Nat} (h : reach ops i j = true) : j ∈ done := by
  cases ho : ops[i]? with
  | some o =>
    exact reach_closed (p := (· ∈ done)) (fun j oj hoj hj e he hb => (nd.dn j hj).2 oj hoj e he hb) ho (fun e he hb => (nd.dn i hi).2 o ho e he hb) h
  | none =>
    exfalso
    have hl : ∀ (r : List Oper) (acc : List Nat), (masks r acc).length = acc.length + r.length := by
      intro r
      induction r with
      | nil => intro acc; simp [masks]
      | cons o r ih => intro acc; simp only [masks, ih]; simp; omega
    have : (masks ops.toList []).getD i 0 = 0 := by
      have h1 : ops.size ≤ i := by
        rcases Nat.lt_or_ge i ops.size with h3 | h3
        · rw [Array.getElem?_eq_getElem h3] at ho; cases ho
        · exact h3
      have : (masks ops.toList []).length ≤ i := by rw [hl]; simpa using h1
      simp [List.getD, List.getElem?_eq_none this]
    unfold reach at h; rw [this] at h; simp at h

theorem reach_ready {listed : Array Bool} (inv : HeadInv .any ops m listed) {i : Nat} {o : Oper} (ho : ops[i]? = some o) (hp : ∀ e ∈ o.after, Region.binds .any e = true → listed.getD e.on false = true) {j : Nat}
    (h : reach ops i j = true) : listed.getD j false = true :=
  reach_closed (p := fun j => listed.getD j false = true) (fun j oj hoj hj e he hb => inv.closed j oj hoj hj e he hb) ho hp h

theorem ready_some {listed : Array Bool} (hB : headB ops m = true) (inv : HeadInv .any ops m listed) : ∀ k, k < m → listed.getD k false = false → ∃ i, i ∈ Region.ready .any ops listed := by
  intro k
  induction k using Nat.strongRecOn with
  | _ k ih =>
    intro hk hu
    obtain ⟨hm, hh⟩ := headB_spec hB
    obtain ⟨o, ho⟩ := hh k hk
    by_cases hall : ∀ e ∈ o.after, Region.binds .any e = true → listed.getD e.on false = true
    · exact ⟨k, mem_ready.2 ⟨getD_in (by rw [inv.size]; omega) hu, o, ho.op, hall⟩⟩
    · have : ∃ e, e ∈ o.after ∧ Region.binds .any e = true ∧ listed.getD e.on false = false := by
        apply Classical.byContradiction
        intro hno
        refine hall fun e he hb => ?_
        cases hl : listed.getD e.on false with
        | true => rfl
        | false => exact absurd ⟨e, he, hb, hl⟩ hno
      obtain ⟨e, he, hb, hl⟩ := this
      have := ho.back e he hb
      exact ih e.on this (by omega) hl

/-- of the head or nothing: where one of the head's is not yet listed -/
theorem ready_lt {listed : Array Bool} (hB : headB ops m = true) (htail : m < ops.size → Region.sinkB .any ops m = true ∧ Region.chainB .any ops m = true) (inv : HeadInv .any ops m listed)
    {k : Nat} (hk : k < m) (hu : listed.getD k false = false) {i : Nat} (hi : i ∈ Region.ready .any ops listed) : i < m := by
  obtain ⟨hm, _⟩ := headB_spec hB
  rcases Nat.lt_or_ge i m with h | h
  · exact h
  · exfalso
    obtain ⟨_, oi, hoi, _⟩ := mem_ready.1 hi
    have hlt : i < ops.size := (Array.getElem?_eq_some_iff.1 hoi).1
    obtain ⟨hs, hc⟩ := htail (by omega)
    exact tail_waits hs hc (by omega) inv _ k rfl hk (getD_in (by rw [inv.size]; omega) hu) i h hi

/-- the slots that a ready operation looks at hold what the walk's list says -/
theorem looks_ok {l0 : Env} {done : List Nat} {recs : List Rec} {l : Env} {C : World → Prop} {listed : Array Bool} {a : Act} {w' : World} (hB : headB ops m = true)
    (nd : Node N ops m l0 done recs l) (J : HJ P N K ops m l0 done recs l C listed a w') {i : Nat} {o : Oper} (hi : i < m) (ho : ops[i]? = some o) (hp : ∀ e ∈ o.after, Region.binds .any e = true → listed.getD e.on false = true) :
    ∀ t ∈ o.looksAt ops, ∀ v, l.get t = some v → a.tmps[t]? = some v := by
  intro t ht v hv
  obtain ⟨hm, hh⟩ := headB_spec hB
  obtain ⟨o', ha⟩ := hh i hi
  have : o' = o := Option.some.inj (ha.op.symm.trans ho)
  subst this
  by_cases hw : ∃ j oj, j < m ∧ ops[j]? = some oj ∧ oj.dst = some t
  · obtain ⟨j, oj, hj, hoj, hd⟩ := hw
    have hr := ha.looks t ht j oj hj hoj hd
    have hl := reach_ready J.inv ho hp hr
    rw [J.slots j oj t hj hoj hd hl, hv]
  · have hno : ∀ i o, i < m → ops[i]? = some o → o.dst ≠ some t := fun j oj hj hoj hd => hw ⟨j, oj, hj, hoj, hd⟩
    rw [nd.old t hno] at hv
    exact J.others t v hv hno

theorem getD_set_self {listed : Array Bool} {i : Nat} (h : i < listed.size) : (listed.setIfInBounds i true).getD i false = true := by
  simp [h]

theorem listed_set {listed : Array Bool} {i j : Nat} (h : (listed.setIfInBounds i true).getD j false = true) : j = i ∨ listed.getD j false = true := by
  by_cases e : i = j
  · exact .inl e.symm
  · rw [getD_set_ne false e] at h; exact .inr h

theorem unlisted_set {listed : Array Bool} {i j : Nat} (hi : i < listed.size) (h : (listed.setIfInBounds i true).getD j false = false) : j ≠ i ∧ listed.getD j false = false := by
  by_cases e : i = j
  · subst e; rw [getD_set_self hi] at h; cases h
  · rw [getD_set_ne false e] at h; exact ⟨fun h' => e h'.symm, h⟩

theorem put_get_ne {a : Act} {d : Option Tmp} {t : Nat} (v : Value) (h : d ≠ some t) : (a.put d v).tmps[t]? = a.tmps[t]? := by
  cases d with
  | none => rfl
  | some d => simp [Act.put, Array.getElem?_setIfInBounds_ne (fun e => h (by rw [e]) : d ≠ t)]
theorem put_size {a : Act} {d : Option Tmp} (v : Value) : (a.put d v).tmps.size = a.tmps.size := by
  cases d with
  | none => rfl
  | some d => simp [Act.put]
theorem put_defers {a : Act} {d : Option Tmp} (v : Value) : (a.put d v).defers = a.defers := by cases d <;> rfl

/-- a read of the walk is carried out -/
theorem HJ.pended {l0 : Env} {done : List Nat} {recs : List Rec} {l : Env} {C : World → Prop} {listed : Array Bool} {a : Act} {w' : World} (hB : headB ops m = true)
    (nd : Node N ops m l0 done recs l) (J : HJ P N K ops m l0 done recs l C listed a w') {i : Nat} (hi : i ∈ Region.ready .any ops listed) (him : i < m) (hd : i ∈ done) {KK : Act → World → Prop}
    (hK : ∀ a' w'', HJ P N K ops m l0 done recs l C (listed.setIfInBounds i true) a' w'' → KK a' w'') : wpOp P ops Q i KK a w' := by
  obtain ⟨hun, o, ho, hp⟩ := mem_ready.1 hi
  obtain ⟨r, hr, rfl, hok⟩ := J.pend i hd (getD_both hun)
  obtain ⟨_, _, o', d, ho', hdst, hg, hundef, hld, hlt, hlook⟩ := nd.recd r hr
  have : o' = o := Option.some.inj (ho'.symm.trans ho)
  subst this
  obtain ⟨hm, hh⟩ := headB_spec hB
  obtain ⟨o2, hat⟩ := hh r.i him
  have : o2 = o' := Option.some.inj (hat.op.symm.trans ho)
  subst this
  have hlooks := looks_ok hB nd J him ho hp
  have hl2 : ∀ t ∈ o2.looksAt ops, ∀ v, r.l.get t = some v → a.tmps[t]? = some v := fun t ht v hv => hlooks t ht v (by rw [← hlook t ht]; exact hv)
  obtain ⟨he, hw⟩ := patch_same (ops := ops) hat.sel J.size hlt hl2
  have hst := patch_st (N := N) (l := r.l) J.defers J.size hlt
  have hsize : r.i < listed.size := by rw [J.inv.size]; omega
  -- what holds behind it
  have next : ∀ w'' : World, (∃ w0 n, K ≤ n ∧ C w0 ∧ w'' = w0.drewN n) → HJ P N K ops m l0 done recs l C (listed.setIfInBounds r.i true) (a.put o2.dst r.v) w'' := by
    intro w'' hc
    refine ⟨J.inv.set hi him, by rw [put_defers]; exact J.defers, by rw [put_size]; exact J.size, fun j hj hl => ?_, fun j oj dj hj hoj hdj hl => ?_, fun t v hv hno => ?_, hc, fun j hj hl => ?_⟩
    · rcases listed_set hl with rfl | hl
      · exact hd
      · exact J.sub j hj hl
    · by_cases e : j = r.i
      · subst e
        have : oj = o2 := Option.some.inj (hoj.symm.trans ho)
        subst this
        have e2 : dj = d := Option.some.inj (hdj.symm.trans hdst)
        subst e2
        rw [hld, hdst]
        have hlt2 := nd.lt dj r.v hld
        simp [Act.put, J.size, hlt2]
      · rcases listed_set hl with h | hl
        · exact absurd h e
        · rw [put_get_ne]
          · exact J.slots j oj dj hj hoj hdj hl
          · exact fun h => hat.once j oj dj hj hoj (fun h2 => e h2.symm) h hdj
    · rw [put_get_ne]
      · exact J.others t v hv hno
      · exact hno r.i o2 him ho
    · exact J.pend j hj (unlisted_set hsize hl).2
  unfold wpOp
  simp only [ho]
  have hwant : Region.wanted o2 (yielded ops a.tmps) = r.b := by rw [← hw]; exact wanted_of hst hg
  rw [hwant]
  cases hb : r.b with
  | false =>
    rw [if_neg Bool.false_ne_true]
    have := hundef hb
    have h2 := next w' J.cls
    rw [this] at h2
    exact hK _ _ h2
  | true =>
    rw [if_pos rfl]
    refine .inl ?_
    obtain ⟨w0, n, hkn, hc, rfl⟩ := J.cls
    have := hok o2 ho hb w0 hc (patch r.l a) n hst
    rw [he] at this
    unfold Oper.wp
    rcases this with h | ⟨f, args, h, hcall⟩
    · rw [h]; exact hK _ _ (next _ ⟨w0, n, hkn, hc, rfl⟩)
    · rw [h]
      refine Calls.mono hcall fun e w'' ⟨h1, w1, q, h0, h2, h3⟩ => ?_
      subst h1
      exact hK _ _ (next _ ⟨w1, q, Nat.le_trans hkn h0, h2, h3⟩)

theorem Node.step {l0 : Env} {done : List Nat} {recs : List Rec} {l : Env} (hB : headB ops m = true) (nd : Node N ops m l0 done recs l) {i : Nat} {o : Oper} (ho : ops[i]? = some o) (hi : (readyL ops m done).contains i = true)
    (hN : okN N o.dst = true) (v : Value) : Node N ops m l0 (i :: done) recs (putE o.dst v l) ∧ i < m ∧ i ∉ done ∧ (∀ e ∈ o.after, Region.binds .any e = true → e.on ∈ done) := by
  have hm : i ∈ readyL ops m done := by simpa using hi
  simp only [readyL, List.mem_filter, List.mem_range, Bool.and_eq_true, ho] at hm
  obtain ⟨him, hnd, hpre⟩ := hm
  have hnot : i ∉ done := by simpa using hnd
  have hpre' : ∀ e ∈ o.after, Region.binds .any e = true → e.on ∈ done := fun e he hb => by
    have := Array.all_eq_true_iff_forall_mem.1 hpre e he
    simpa [hb] using this
  refine ⟨⟨fun t u hu => ?_, fun t hno => ?_, fun j hj => ?_, fun r hr => ?_⟩, him, hnot, hpre'⟩
  · by_cases e : o.dst = some t
    · rw [e] at hN; simpa [okN, Nat.blt_eq] using hN
    · rw [putE_get_ne v l e] at hu; exact nd.lt t u hu
  · rw [putE_get_ne v l (hno i o him ho)]; exact nd.old t hno
  · rcases List.mem_cons.1 hj with rfl | hj
    · refine ⟨him, fun o' ho' e he hb => ?_⟩
      have : o' = o := Option.some.inj (ho'.symm.trans ho)
      subst this
      exact List.mem_cons_of_mem _ (hpre' e he hb)
    · exact ⟨(nd.dn j hj).1, fun o' ho' e he hb => List.mem_cons_of_mem _ ((nd.dn j hj).2 o' ho' e he hb)⟩
  · obtain ⟨h1, h2, o', d, h3, h4, h5, h6, h7, h8, h9⟩ := nd.recd r hr
    obtain ⟨hms, hh⟩ := headB_spec hB
    obtain ⟨o2, hat⟩ := hh r.i h1
    have : o2 = o' := Option.some.inj (hat.op.symm.trans h3)
    subst this
    have hne : r.i ≠ i := fun e => hnot (e ▸ h2)
    refine ⟨h1, List.mem_cons_of_mem _ h2, o2, d, h3, h4, h5, h6, ?_, h8, fun t ht => ?_⟩
    · rw [putE_get_ne v l (hat.once i o d him ho hne h4)]; exact h7
    · by_cases e : o.dst = some t
      · have := hat.looks t ht i o him ho e
        exact absurd (reach_done nd h2 this) hnot
      · rw [putE_get_ne v l e]; exact h9 t ht

theorem Node.addRec {l0 : Env} {done : List Nat} {recs : List Rec} {l : Env} (nd : Node N ops m l0 done recs l) {r : Rec}
    (h : r.i < m ∧ r.i ∈ done ∧ ∃ o d, ops[r.i]? = some o ∧ o.dst = some d ∧ guardE ops r.l o.guard = some r.b ∧ (r.b = false → r.v = undef) ∧ l.get d = some r.v ∧
    (∀ t v, r.l.get t = some v → t < N) ∧ ∀ t ∈ o.looksAt ops, r.l.get t = l.get t) : Node N ops m l0 done (r :: recs) l :=
  ⟨nd.lt, nd.old, nd.dn, fun q hq => by
    rcases List.mem_cons.1 hq with rfl | hq
    · exact h
    · exact nd.recd q hq⟩

/-- a read is walked: nothing is carried out yet -/
theorem HJ.walked {l0 : Env} {done : List Nat} {recs : List Rec} {l : Env} {C : World → Prop} {listed : Array Bool} {a : Act} {w' : World} (hB : headB ops m = true)
    (nd : Node N ops m l0 done recs l) (J : HJ P N K ops m l0 done recs l C listed a w') {i d : Nat} {o : Oper} {v : Value} {b : Bool} (hi : (readyL ops m done).contains i = true) (ho : ops[i]? = some o) (hd : o.dst = some d) (hN : Nat.blt d N = true)
    (hg : guardE ops l o.guard = some b) (hu : b = false → v = undef) (hy : b = true → YC P N o l C v) :
    Node N ops m l0 (i :: done) (⟨i, l, b, v⟩ :: recs) ((d, v) :: l) ∧ HJ P N K ops m l0 (i :: done) (⟨i, l, b, v⟩ :: recs) ((d, v) :: l) C listed a w' := by
  have hN' : okN N o.dst = true := by rw [hd]; exact hN
  obtain ⟨nd', him, hnot, hpre⟩ := nd.step hB ho hi hN' v
  rw [hd] at nd'
  obtain ⟨hms, hh⟩ := headB_spec hB
  obtain ⟨o2, hat⟩ := hh i him
  have : o2 = o := Option.some.inj (hat.op.symm.trans ho)
  subst this
  have hself : ∀ t ∈ o2.looksAt ops, l.get t = Env.get ((d, v) :: l) t := fun t ht => by
    by_cases e : d = t
    · subst e
      have := hat.looks d ht i o2 him ho hd
      -- an operation does not look at what it writes itself
      exfalso
      have h3 : i ∈ done := by
        have := reach_closed (ops := ops) (p := (· ∈ done)) (fun j oj hoj hj e he hb => (nd.dn j hj).2 oj hoj e he hb) ho (fun e he hb => hpre e he hb) this
        exact this
      exact hnot h3
    · rw [Env.get_cons_ne v l e]
  refine ⟨nd'.addRec ⟨him, by simp, o2, d, ho, hd, hg, hu, Env.get_cons_same _ _ _, nd.lt, hself⟩, ⟨J.inv, J.defers, J.size, fun j hj hl => List.mem_cons_of_mem _ (J.sub j hj hl), fun j oj dj hj hoj hdj hl => ?_, J.others, J.cls, fun j hj hl => ?_⟩⟩
  · have hne : i ≠ j := fun e => hnot (by rw [e]; exact J.sub j hj hl)
    have : d ≠ dj := fun e => hat.once j oj d hj hoj hne hd (by rw [e]; exact hdj)
    rw [Env.get_cons_ne v l this]
    exact J.slots j oj dj hj hoj hdj hl
  · rcases List.mem_cons.1 hj with rfl | hj
    · refine ⟨_, List.mem_cons_self .., rfl, fun o' ho' hb => ?_⟩
      have : o' = o2 := Option.some.inj (ho'.symm.trans ho)
      subst this
      exact hy hb
    · obtain ⟨r, hr, h1, h2⟩ := J.pend j hj hl
      exact ⟨r, List.mem_cons_of_mem _ hr, h1, h2⟩

/-- an operation that acts is carried out -/
theorem HJ.acted {l0 : Env} {done : List Nat} {recs : List Rec} {l : Env} {C : World → Prop} {C2 : Value → World → Prop} {listed : Array Bool} {a : Act} {w' : World} (hB : headB ops m = true)
    (nd : Node N ops m l0 done recs l) (J : HJ P N K ops m l0 done recs l C listed a w') {i : Nat} {o : Oper} (hr : i ∈ Region.ready .any ops listed) (him : i < m) (hnot : i ∉ done) (ho : ops[i]? = some o) (hN : okN N o.dst = true)
    (hg : guardE ops l o.guard = some true) (he : Eff P N o l C C2) (hp : ∀ v, (∃ w', C2 v w') → AllP P N ops i (C2 v) recs) {KK : Act → World → Prop}
    (hK : ∀ v a' w'', (∃ w', C2 v w') → Node N ops m l0 (i :: done) recs (putE o.dst v l) → HJ P N K ops m l0 (i :: done) recs (putE o.dst v l) (C2 v) (listed.setIfInBounds i true) a' w'' → KK a' w'') : wpOp P ops Q i KK a w' := by
  obtain ⟨hun, o', ho', hpre⟩ := mem_ready.1 hr
  have : o' = o := Option.some.inj (ho'.symm.trans ho)
  subst this
  obtain ⟨hm, hh⟩ := headB_spec hB
  obtain ⟨o2, hat⟩ := hh i him
  have : o2 = o' := Option.some.inj (hat.op.symm.trans ho)
  subst this
  have hlooks := looks_ok hB nd J him ho hpre
  obtain ⟨hex, hw⟩ := patch_same (ops := ops) hat.sel J.size nd.lt hlooks
  have hst := patch_st (N := N) (l := l) J.defers J.size nd.lt
  have hsize : i < listed.size := by rw [J.inv.size]; omega
  have hready : (readyL ops m done).contains i = true := by
    have : i ∈ readyL ops m done := by
      simp only [readyL, List.mem_filter, List.mem_range, Bool.and_eq_true, ho]
      refine ⟨him, by simpa using hnot, ?_⟩
      rw [Array.all_eq_true_iff_forall_mem]
      intro e hem
      cases hb : Region.binds .any e with
      | false => simp
      | true =>
        have hl := hpre e hem hb
        have hlt : e.on < m := by have := hat.back e hem hb; omega
        simpa using J.sub e.on hlt hl
    simpa using this
  have next : ∀ v (w'' : World), (∃ w0 n, K ≤ n ∧ C2 v w0 ∧ w'' = w0.drewN n) → KK (a.put o2.dst v) w'' := by
    intro v w'' hc
    obtain ⟨nd', _, _, _⟩ := nd.step hB ho hready hN v
    have hcw : ∃ w', C2 v w' := hc.elim fun wc h => h.elim fun _ h => ⟨wc, h.2.1⟩
    refine hK v _ _ hcw nd' ⟨J.inv.set hr him, by rw [put_defers]; exact J.defers, by rw [put_size]; exact J.size, fun j hj hl => ?_, fun j oj dj hj hoj hdj hl => ?_, fun t u hu hno => ?_, hc, fun j hj hl => ?_⟩
    · rcases listed_set hl with rfl | hl
      · simp
      · exact List.mem_cons_of_mem _ (J.sub j hj hl)
    · by_cases e : j = i
      · subst e
        have : oj = o2 := Option.some.inj (hoj.symm.trans ho)
        subst this
        rw [hdj]
        have hlt : dj < N := by rw [hdj] at hN; simpa [okN, Nat.blt_eq] using hN
        rw [show putE (some dj) v l = (dj, v) :: l from rfl, Env.get_cons_same]
        simp [Act.put, J.size, hlt]
      · rcases listed_set hl with h | hl
        · exact absurd h e
        · have hne2 : o2.dst ≠ some dj := fun h => hat.once j oj dj hj hoj (fun h2 => e h2.symm) h hdj
          rw [put_get_ne v hne2, putE_get_ne v l hne2]
          exact J.slots j oj dj hj hoj hdj hl
    · rw [put_get_ne v (hno i o2 him ho)]
      exact J.others t u hu hno
    · obtain ⟨h1, h2⟩ := unlisted_set hsize hl
      rcases List.mem_cons.1 hj with h | hj
      · exact absurd h h1
      · obtain ⟨r, hrm, h3, _⟩ := J.pend j hj h2
        refine ⟨r, hrm, h3, ?_⟩
        rcases AllP.mem (hp v hcw) r hrm with h4 | h4
        · have := reach_ready J.inv ho hpre h4
          rw [h3] at this; rw [this] at h2; cases h2
        · exact h4
  unfold wpOp
  simp only [ho]
  rw [← hw, wanted_of hst hg, if_pos rfl]
  refine .inl ?_
  obtain ⟨w0, n, hkn, hc, rfl⟩ := J.cls
  have := he w0 hc (patch l a) n hst
  rw [hex] at this
  unfold Oper.wp
  rcases this with ⟨v, w1, q, h0, h, h2⟩ | ⟨w1, q, h0, h, h2⟩ | ⟨f, args, h, hcall⟩
  · rw [h]; exact next v _ ⟨w1, q, Nat.le_trans hkn h0, h2, rfl⟩
  · rw [h]; exact next undef _ ⟨w1, q, Nat.le_trans hkn h0, h2, rfl⟩
  · rw [h]
    refine Calls.mono hcall fun e w'' ⟨v, w1, q, h0, h1, h2, h3⟩ => ?_
    subst h1
    exact next v _ ⟨w1, q, Nat.le_trans hkn h0, h3, h2⟩

/-- the same, the world behind it told -/
theorem HJ.actedS {l0 : Env} {done : List Nat} {recs : List Rec} {l : Env} {C : World → Prop} {C2 : Value → World → Prop} {listed : Array Bool} {a : Act} {w' : World} (hB : headB ops m = true)
    (nd : Node N ops m l0 done recs l) (J : HJ P N K ops m l0 done recs l C listed a w') {i : Nat} {o : Oper} (hr : i ∈ Region.ready .any ops listed) (him : i < m) (hnot : i ∉ done) (ho : ops[i]? = some o) (hN : okN N o.dst = true)
    (hg : guardE ops l o.guard = some true) (he : Eff P N o l C C2) (hp : ∀ v w1, C2 v w1 → AllP P N ops i (w1 = ·) recs) {KK : Act → World → Prop}
    (hK : ∀ v w1 a' w'', C2 v w1 → Node N ops m l0 (i :: done) recs (putE o.dst v l) → HJ P N K ops m l0 (i :: done) recs (putE o.dst v l) (w1 = ·) (listed.setIfInBounds i true) a' w'' → KK a' w'') : wpOp P ops Q i KK a w' := by
  obtain ⟨hun, o', ho', hpre⟩ := mem_ready.1 hr
  have : o' = o := Option.some.inj (ho'.symm.trans ho)
  subst this
  obtain ⟨hm, hh⟩ := headB_spec hB
  obtain ⟨o2, hat⟩ := hh i him
  have : o2 = o' := Option.some.inj (hat.op.symm.trans ho)
  subst this
  have hlooks := looks_ok hB nd J him ho hpre
  obtain ⟨hex, hw⟩ := patch_same (ops := ops) hat.sel J.size nd.lt hlooks
  have hst := patch_st (N := N) (l := l) J.defers J.size nd.lt
  have hsize : i < listed.size := by rw [J.inv.size]; omega
  have hready : (readyL ops m done).contains i = true := by
    have : i ∈ readyL ops m done := by
      simp only [readyL, List.mem_filter, List.mem_range, Bool.and_eq_true, ho]
      refine ⟨him, by simpa using hnot, ?_⟩
      rw [Array.all_eq_true_iff_forall_mem]
      intro e hem
      cases hb : Region.binds .any e with
      | false => simp
      | true =>
        have hl := hpre e hem hb
        have hlt : e.on < m := by have := hat.back e hem hb; omega
        simpa using J.sub e.on hlt hl
    simpa using this
  have next : ∀ v (w'' : World), (∃ w0 n, K ≤ n ∧ C2 v w0 ∧ w'' = w0.drewN n) → KK (a.put o2.dst v) w'' := by
    intro v w'' hc
    obtain ⟨nd', _, _, _⟩ := nd.step hB ho hready hN v
    obtain ⟨wc, nc, hkc, hcc, rfl⟩ := hc
    refine hK v wc _ _ hcc nd' ⟨J.inv.set hr him, by rw [put_defers]; exact J.defers, by rw [put_size]; exact J.size, fun j hj hl => ?_, fun j oj dj hj hoj hdj hl => ?_, fun t u hu hno => ?_, ⟨wc, nc, hkc, rfl, rfl⟩, fun j hj hl => ?_⟩
    · rcases listed_set hl with rfl | hl
      · simp
      · exact List.mem_cons_of_mem _ (J.sub j hj hl)
    · by_cases e : j = i
      · subst e
        have : oj = o2 := Option.some.inj (hoj.symm.trans ho)
        subst this
        rw [hdj]
        have hlt : dj < N := by rw [hdj] at hN; simpa [okN, Nat.blt_eq] using hN
        rw [show putE (some dj) v l = (dj, v) :: l from rfl, Env.get_cons_same]
        simp [Act.put, J.size, hlt]
      · rcases listed_set hl with h | hl
        · exact absurd h e
        · have hne2 : o2.dst ≠ some dj := fun h => hat.once j oj dj hj hoj (fun h2 => e h2.symm) h hdj
          rw [put_get_ne v hne2, putE_get_ne v l hne2]
          exact J.slots j oj dj hj hoj hdj hl
    · rw [put_get_ne v (hno i o2 him ho)]
      exact J.others t u hu hno
    · obtain ⟨h1, h2⟩ := unlisted_set hsize hl
      rcases List.mem_cons.1 hj with h | hj
      · exact absurd h h1
      · obtain ⟨r, hrm, h3, _⟩ := J.pend j hj h2
        refine ⟨r, hrm, h3, ?_⟩
        rcases AllP.mem (hp v wc hcc) r hrm with h4 | h4
        · have := reach_ready J.inv ho hpre h4
          rw [h3] at this; rw [this] at h2; cases h2
        · exact h4
  unfold wpOp
  simp only [ho]
  rw [← hw, wanted_of hst hg, if_pos rfl]
  refine .inl ?_
  obtain ⟨w0, n, hkn, hc, rfl⟩ := J.cls
  have := he w0 hc (patch l a) n hst
  rw [hex] at this
  unfold Oper.wp
  rcases this with ⟨v, w1, q, h0, h, h2⟩ | ⟨w1, q, h0, h, h2⟩ | ⟨f, args, h, hcall⟩
  · rw [h]; exact next v _ ⟨w1, q, Nat.le_trans hkn h0, h2, rfl⟩
  · rw [h]; exact next undef _ ⟨w1, q, Nat.le_trans hkn h0, h2, rfl⟩
  · rw [h]
    refine Calls.mono hcall fun e w'' ⟨v, w1, q, h0, h1, h2, h3⟩ => ?_
    subst h1
    exact next v _ ⟨w1, q, Nat.le_trans hkn h0, h3, h2⟩

/-- how many of the head are not yet listed -/
def leftOf (m : Nat) (listed : Array Bool) : Nat := (List.range m).countP fun i => !listed.getD i false

theorem countP_one {p q : Nat → Bool} {i : Nat} : ∀ {L : List Nat}, L.Nodup → i ∈ L → p i = true → q i = false → (∀ j, j ≠ i → q j = p j) → L.countP q + 1 = L.countP p
  | [], _, h, _, _, _ => by cases h
  | x :: L, hn, h, hp, hq, hj => by
    rw [List.nodup_cons] at hn
    by_cases e : x = i
    · subst e
      have : L.countP q = L.countP p := List.countP_congr fun y hy => by
        rw [hj y (fun h => hn.1 (h ▸ hy))]
      rw [List.countP_cons, List.countP_cons, hp, hq, this]; simp
    · have hm : i ∈ L := by
        rcases List.mem_cons.1 h with h | h
        · exact absurd h.symm e
        · exact h
      have := countP_one (L := L) hn.2 hm hp hq hj
      rw [List.countP_cons, List.countP_cons, hj x e]; omega

theorem leftOf_set {listed : Array Bool} {i : Nat} (him : i < m) (hs : i < listed.size) (hu : listed.getD i false = false) : leftOf m (listed.setIfInBounds i true) + 1 = leftOf m listed := by
  unfold leftOf
  refine countP_one (i := i) List.nodup_range (List.mem_range.2 him) (by rw [hu]; rfl) (by rw [getD_set_self hs]; rfl) fun j hj => ?_
  rw [getD_set_ne false (fun h => hj h.symm)]

theorem leftOf_zero {listed : Array Bool} (h : leftOf m listed = 0) : ∀ i, i < m → listed.getD i false = true := by
  intro i hi
  unfold leftOf at h
  rw [List.countP_eq_zero] at h
  have := h i (List.mem_range.2 hi)
  simpa using this

theorem leftOf_pos {listed : Array Bool} {f : Nat} (h : leftOf m listed = f + 1) : ∃ i, i < m ∧ listed.getD i false = false := by
  apply Classical.byContradiction
  intro hno
  have : leftOf m listed = 0 := by
    unfold leftOf
    rw [List.countP_eq_zero]
    intro i hi
    cases hl : listed.getD i false with
    | true => simp
    | false => exact absurd ⟨i, List.mem_range.1 hi, hl⟩ hno
  omega

def fullTo (m n : Nat) : Array Bool := ((List.range n).map fun i => decide (i < m)).toArray

theorem full_of {listed : Array Bool} (inv : HeadInv .any ops m listed) (h : ∀ i, i < m → listed.getD i false = true) : listed = fullTo m ops.size := by
  apply Array.ext
  · simp [fullTo, inv.size]
  · intro i h1 h2
    have e : (fullTo m ops.size)[i] = decide (i < m) := by simp [fullTo]
    rw [e]
    rcases Nat.lt_or_ge i m with hi | hi
    · have := h i hi
      simp [h1] at this
      simp [this, hi]
    · have := inv.tail i hi (by rw [inv.size] at h1; exact h1)
      simp [h1] at this
      simp [this, Nat.not_lt.2 hi]

def tailB (ops : Array Oper) (m : Nat) : Bool :=
  (decide (ops.size ≤ m) || (Region.sinkB .any ops m && Region.chainB .any ops m)) && Region.seqB .any ops (ops.size - m) m (fullTo m ops.size)

theorem HT.sound {l0 : Env} (hB : headB ops m = true) (hTB : tailB ops m = true) (hT : ∀ l' w', T l' w' → WL P N K ops Q (ops.toList.drop m) l' w') :
    ∀ f done recs l C, HT P N ops m T done recs l C → ∀ listed a w', Node N ops m l0 done recs l → HJ P N K ops m l0 done recs l C listed a w' → leftOf m listed = f → wpAny P .any ops Q (f + (ops.size - m)) listed a w' := by
  have hms : m ≤ ops.size := (headB_spec hB).1
  simp only [tailB, Bool.and_eq_true, Bool.or_eq_true, decide_eq_true_eq] at hTB
  have htail : m < ops.size → Region.sinkB .any ops m = true ∧ Region.chainB .any ops m = true := fun h => by
    rcases hTB.1 with h1 | h1
    · omega
    · exact h1
  intro f
  induction f with
  | zero =>
    intro done recs l C H
    induction H with
    | @fin done recs l C hall h =>
      intro listed a w' nd J hf
      have hfull := leftOf_zero hf
      have hl := full_of J.inv hfull
      obtain ⟨w0, n, hkn, hc, rfl⟩ := J.cls
      have hst : St N l a := ⟨J.defers, J.size, fun t v hv => by
        by_cases hw : ∃ j oj, j < m ∧ ops[j]? = some oj ∧ oj.dst = some t
        · obtain ⟨j, oj, hj, hoj, hd⟩ := hw
          rw [J.slots j oj t hj hoj hd (hfull j hj), hv]
        · have hno : ∀ i o, i < m → ops[i]? = some o → o.dst ≠ some t := fun j oj hj hoj hd => hw ⟨j, oj, hj, hoj, hd⟩
          rw [nd.old t hno] at hv
          exact J.others t v hv hno⟩
      have hwl := hT l w0 (h w0 hc) a n hkn hst
      have hlen : (ops.toList.drop m).length = ops.size - m := by simp
      have := wpAny_of_seq (md := .any) (ops := ops) (Q' := Q) (ops.toList.drop m) m listed a (w0.drewN n) (fun j => by simp [List.getElem?_drop]) (by rw [hlen, hl]; exact hTB.2) hwl
      rw [hlen] at this
      rw [Nat.zero_add]; exact this
    | read hi ho hd hN hg hy _ ih =>
      intro listed a w' nd J hf
      obtain ⟨nd', J'⟩ := HJ.walked hB nd J hi ho hd hN hg (by simp) (fun _ => hy)
      exact ih listed a w' nd' J' hf
    | skip hi ho hd hN hg _ ih =>
      intro listed a w' nd J hf
      obtain ⟨nd', J'⟩ := HJ.walked hB nd J hi ho hd hN hg (fun _ => rfl) (by simp)
      exact ih listed a w' nd' J' hf
    | @eff done recs l C hne O C2 h1 h2 h3 _ =>
      intro listed a w' nd J hf
      exfalso
      have hfull := leftOf_zero hf
      have : (List.range m).all (done.contains ·) = true := List.all_eq_true.2 fun i hi => by
        have hi' := List.mem_range.1 hi
        simpa using J.sub i hi' (hfull i hi')
      rw [this] at hne; cases hne
    | @effS done recs l C i o R hr ho hN hg he hp h _ =>
      intro listed a w' nd J hf
      exfalso
      have hfull := leftOf_zero hf
      have : (List.range m).all (done.contains ·) = true := List.all_eq_true.2 fun i hi => by
        have hi' := List.mem_range.1 hi
        simpa using J.sub i hi' (hfull i hi')
      rw [ready_not_all (i := i) (by rw [hr]; simp)] at this; cases this
    | @effM done recs l C hne O R h1 h2 h3 _ =>
      intro listed a w' nd J hf
      exfalso
      have hfull := leftOf_zero hf
      have : (List.range m).all (done.contains ·) = true := List.all_eq_true.2 fun i hi => by
        have hi' := List.mem_range.1 hi
        simpa using J.sub i hi' (hfull i hi')
      rw [this] at hne; cases hne
  | succ f ihf =>
    intro done recs l C H
    induction H with
    | @fin done recs l C hall h =>
      intro listed a w' nd J hf
      obtain ⟨k, hk, hku⟩ := leftOf_pos hf
      rw [show f + 1 + (ops.size - m) = (f + (ops.size - m)) + 1 by omega]
      refine ⟨fun h0 => ?_, fun i hi => ?_⟩
      · obtain ⟨i, hi⟩ := ready_some hB J.inv k hk hku
        rw [h0] at hi; cases hi
      · have him := ready_lt hB htail J.inv hk hku hi
        have hd : i ∈ done := by
          have := List.all_eq_true.1 hall i (List.mem_range.2 him)
          simpa using this
        have hun := getD_both (mem_ready.1 hi).1
        refine HJ.pended hB nd J hi him hd fun a' w'' J' => ?_
        refine ihf done recs l C (.fin hall h) _ a' w'' nd J' ?_
        have := leftOf_set (m := m) him (by rw [J.inv.size]; omega) hun
        omega
    | read hi ho hd hN hg hy _ ih =>
      intro listed a w' nd J hf
      obtain ⟨nd', J'⟩ := HJ.walked hB nd J hi ho hd hN hg (by simp) (fun _ => hy)
      exact ih listed a w' nd' J' hf
    | skip hi ho hd hN hg _ ih =>
      intro listed a w' nd J hf
      obtain ⟨nd', J'⟩ := HJ.walked hB nd J hi ho hd hN hg (fun _ => rfl) (by simp)
      exact ih listed a w' nd' J' hf
    | @eff done recs l C hne O C2 h1 h2 h3 _ =>
      intro listed a w' nd J hf
      obtain ⟨k, hk, hku⟩ := leftOf_pos hf
      rw [show f + 1 + (ops.size - m) = (f + (ops.size - m)) + 1 by omega]
      refine ⟨fun h0 => ?_, fun i hi => ?_⟩
      · obtain ⟨i, hi⟩ := ready_some hB J.inv k hk hku
        rw [h0] at hi; cases hi
      · have him := ready_lt hB htail J.inv hk hku hi
        obtain ⟨hun0, oi, hoi, hpre⟩ := mem_ready.1 hi
        have hun := getD_both hun0
        have hset := leftOf_set (m := m) him (by rw [J.inv.size]; omega) hun
        by_cases hd : i ∈ done
        · refine HJ.pended hB nd J hi him hd fun a' w'' J' => ?_
          exact ihf done recs l C (.eff hne O C2 h1 h2 h3) _ a' w'' nd J' (by omega)
        · have hready : i ∈ readyL ops m done := by
            simp only [readyL, List.mem_filter, List.mem_range, Bool.and_eq_true, hoi]
            refine ⟨him, by simpa using hd, ?_⟩
            rw [Array.all_eq_true_iff_forall_mem]
            intro e hem
            cases hb : Region.binds .any e with
            | false => simp
            | true =>
              have hl := hpre e hem hb
              obtain ⟨_, hh⟩ := headB_spec hB
              obtain ⟨o2, hat⟩ := hh i him
              have : o2 = oi := Option.some.inj (hat.op.symm.trans hoi)
              subst this
              have hlt : e.on < m := by have := hat.back e hem hb; omega
              simpa using J.sub e.on hlt hl
          obtain ⟨g1, g2, g3, g4⟩ := h1 i hready
          refine HJ.acted hB nd J hi him hd g1 g2 g3 g4 (h2 i hready) fun v a' w'' hcw nd' J' => ?_
          exact ihf _ _ _ _ (h3 i hready v hcw) _ a' w'' nd' J' (by omega)
    | @effM done recs l C hne O C2 h1 h2 h3 _ =>
      intro listed a w' nd J hf
      obtain ⟨k, hk, hku⟩ := leftOf_pos hf
      rw [show f + 1 + (ops.size - m) = (f + (ops.size - m)) + 1 by omega]
      refine ⟨fun h0 => ?_, fun i hi => ?_⟩
      · obtain ⟨i, hi⟩ := ready_some hB J.inv k hk hku
        rw [h0] at hi; cases hi
      · have him := ready_lt hB htail J.inv hk hku hi
        obtain ⟨hun0, oi, hoi, hpre⟩ := mem_ready.1 hi
        have hun := getD_both hun0
        have hset := leftOf_set (m := m) him (by rw [J.inv.size]; omega) hun
        by_cases hd : i ∈ done
        · refine HJ.pended hB nd J hi him hd fun a' w'' J' => ?_
          exact ihf done recs l C (.effM hne O C2 h1 h2 h3) _ a' w'' nd J' (by omega)
        · have hready : i ∈ readyL ops m done := by
            simp only [readyL, List.mem_filter, List.mem_range, Bool.and_eq_true, hoi]
            refine ⟨him, by simpa using hd, ?_⟩
            rw [Array.all_eq_true_iff_forall_mem]
            intro e hem
            cases hb : Region.binds .any e with
            | false => simp
            | true =>
              have hl := hpre e hem hb
              obtain ⟨_, hh⟩ := headB_spec hB
              obtain ⟨o2, hat⟩ := hh i him
              have : o2 = oi := Option.some.inj (hat.op.symm.trans hoi)
              subst this
              have hlt : e.on < m := by have := hat.back e hem hb; omega
              simpa using J.sub e.on hlt hl
          obtain ⟨g1, g2, g3, g4⟩ := h1 i hready
          refine HJ.actedS hB nd J hi him hd g1 g2 g3 g4 (h2 i hready) fun v w1 a' w'' hcw nd' J' => ?_
          exact ihf _ _ _ _ (h3 i hready v w1 hcw) _ a' w'' nd' J' (by omega)
    | @effS done recs l C i0 o0 R hr0 ho0 hN0 hg0 he0 hp0 h0 _ =>
      intro listed a w' nd J hf
      obtain ⟨k, hk, hku⟩ := leftOf_pos hf
      rw [show f + 1 + (ops.size - m) = (f + (ops.size - m)) + 1 by omega]
      refine ⟨fun hq => ?_, fun i hi => ?_⟩
      · obtain ⟨i, hi⟩ := ready_some hB J.inv k hk hku
        rw [hq] at hi; cases hi
      · have him := ready_lt hB htail J.inv hk hku hi
        obtain ⟨hun0, oi, hoi, hpre⟩ := mem_ready.1 hi
        have hun := getD_both hun0
        have hset := leftOf_set (m := m) him (by rw [J.inv.size]; omega) hun
        by_cases hd : i ∈ done
        · refine HJ.pended hB nd J hi him hd fun a' w'' J' => ?_
          exact ihf done recs l C (.effS R hr0 ho0 hN0 hg0 he0 hp0 h0) _ a' w'' nd J' (by omega)
        · have hready : i ∈ readyL ops m done := by
            simp only [readyL, List.mem_filter, List.mem_range, Bool.and_eq_true, hoi]
            refine ⟨him, by simpa using hd, ?_⟩
            rw [Array.all_eq_true_iff_forall_mem]
            intro e hem
            cases hb : Region.binds .any e with
            | false => simp
            | true =>
              have hl := hpre e hem hb
              obtain ⟨_, hh⟩ := headB_spec hB
              obtain ⟨o2, hat⟩ := hh i him
              have : o2 = oi := Option.some.inj (hat.op.symm.trans hoi)
              subst this
              have hlt : e.on < m := by have := hat.back e hem hb; omega
              simpa using J.sub e.on hlt hl
          rw [hr0] at hready
          simp only [List.mem_singleton] at hready
          subst hready
          refine HJ.actedS hB nd J hi him hd ho0 hN0 hg0 he0 hp0 fun v w1 a' w'' hcw nd' J' => ?_
          exact ihf _ _ _ _ (h0 v w1 hcw) _ a' w'' nd' J' (by omega)

theorem HT.effC {done : List Nat} {recs : List Rec} {l : Env} {C : World → Prop} {i : Nat} {o : Oper} (R : Value → World → Prop) (hr : readyL ops m done = [i]) (ho : ops[i]? = some o) (hN : okN N o.dst = true) (hg : guardE ops l o.guard = some true) (he : Eff P N o l C R)
    (h : ∀ v w1, R v w1 → AllP P N ops i (w1 = ·) recs ∧ HT P N ops m T (i :: done) recs (putE o.dst v l) (w1 = ·)) : HT P N ops m T done recs l C :=
  .effS R hr ho hN hg he (fun v w1 hv => (h v w1 hv).1) (fun v w1 hv => (h v w1 hv).2)

/-- one of several that are ready -/
def Br (P : Program) (N : Nat) (ops : Array Oper) (m : Nat) (T : Env → World → Prop) (done : List Nat) (recs : List Rec) (l : Env) (C : World → Prop) (i : Nat) : Prop :=
  ∃ (o : Oper) (R : Value → World → Prop), ops[i]? = some o ∧ okN N o.dst = true ∧ guardE ops l o.guard = some true ∧ Eff P N o l C R ∧ ∀ v w1, R v w1 → AllP P N ops i (w1 = ·) recs ∧ HT P N ops m T (i :: done) recs (putE o.dst v l) (w1 = ·)
theorem HT.br {done : List Nat} {recs : List Rec} {l : Env} {C : World → Prop} {i : Nat} {o : Oper} (R : Value → World → Prop) (ho : ops[i]? = some o) (hN : okN N o.dst = true) (hg : guardE ops l o.guard = some true) (he : Eff P N o l C R)
    (h : ∀ v w1, R v w1 → AllP P N ops i (w1 = ·) recs ∧ HT P N ops m T (i :: done) recs (putE o.dst v l) (w1 = ·)) : Br P N ops m T done recs l C i := ⟨o, R, ho, hN, hg, he, h⟩
theorem HT.effB {done : List Nat} {recs : List Rec} {l : Env} {C : World → Prop} {j : Nat} (hj : j ∈ readyL ops m done) (h : ∀ i ∈ readyL ops m done, Br P N ops m T done recs l C i) : HT P N ops m T done recs l C := by
  have key : ∀ i, ∃ (o : Oper) (R : Value → World → Prop), i ∈ readyL ops m done → ops[i]? = some o ∧ okN N o.dst = true ∧ guardE ops l o.guard = some true ∧ Eff P N o l C R ∧ ∀ v w1, R v w1 → AllP P N ops i (w1 = ·) recs ∧ HT P N ops m T (i :: done) recs (putE o.dst v l) (w1 = ·) := by
    intro i
    by_cases hi : i ∈ readyL ops m done
    · obtain ⟨o, R, hr⟩ := h i hi
      exact ⟨o, R, fun _ => hr⟩
    · obtain ⟨o, R, _⟩ := h j hj
      exact ⟨o, R, fun h => absurd h hi⟩
  let O := fun i => Classical.choose (key i)
  let R := fun i => Classical.choose (Classical.choose_spec (key i))
  have hs : ∀ i, i ∈ readyL ops m done → ops[i]? = some (O i) ∧ okN N (O i).dst = true ∧ guardE ops l (O i).guard = some true ∧ Eff P N (O i) l C (R i) ∧ ∀ v w1, R i v w1 → AllP P N ops i (w1 = ·) recs ∧ HT P N ops m T (i :: done) recs (putE (O i).dst v l) (w1 = ·) :=
    fun i => Classical.choose_spec (Classical.choose_spec (key i))
  exact .effM (ready_not_all hj) O R (fun i hi => ⟨(hs i hi).1, (hs i hi).2.1, (hs i hi).2.2.1, (hs i hi).2.2.2.1⟩) (fun i hi v w1 hv => ((hs i hi).2.2.2.2 v w1 hv).1) (fun i hi v w1 hv => ((hs i hi).2.2.2.2 v w1 hv).2)
theorem HT.effB2 {done : List Nat} {recs : List Rec} {l : Env} {C : World → Prop} {i j : Nat} (hr : readyL ops m done = [i, j]) (h1 : Br P N ops m T done recs l C i) (h2 : Br P N ops m T done recs l C j) : HT P N ops m T done recs l C :=
  HT.effB (j := i) (by rw [hr]; simp) fun k hk => by
    rw [hr] at hk
    rcases List.mem_cons.1 hk with rfl | hk
    · exact h1
    · rw [List.mem_singleton] at hk; subst hk; exact h2
theorem HT.effB3 {done : List Nat} {recs : List Rec} {l : Env} {C : World → Prop} {i j k : Nat} (hr : readyL ops m done = [i, j, k]) (h1 : Br P N ops m T done recs l C i) (h2 : Br P N ops m T done recs l C j) (h3 : Br P N ops m T done recs l C k) : HT P N ops m T done recs l C :=
  HT.effB (j := i) (by rw [hr]; simp) fun q hk => by
    rw [hr] at hk
    rcases List.mem_cons.1 hk with rfl | hk
    · exact h1
    · rcases List.mem_cons.1 hk with rfl | hk
      · exact h2
      · rw [List.mem_singleton] at hk; subst hk; exact h3

theorem W.region_draw {id : Nat} {l : List Oper} {env : Env} {w : World} (m : Nat) (C : World → Prop) (hC : C w) (hm : P.follows .mixedOrders = true) (hB : headB l.toArray m = true) (hTB : tailB l.toArray m = true)
    (h : HT P N l.toArray m (fun l' w' => WL P N K l.toArray Q (l.drop m) l' w') [] [] env C) : W P N K (.region id l.toArray true) Q env w := by
  intro a n hk hs
  refine wp_region_any hm ?_
  rw [drew_eq]
  have inv0 : HeadInv .any l.toArray m (Array.replicate l.toArray.size false) :=
    ⟨by simp, fun j oj _ hl => (by rw [getD_replicate_false] at hl; cases hl), fun t _ ht => getD_in (by simpa using ht) (getD_replicate_false _ _)⟩
  have hlt : ∀ t v, env.get t = some v → t < N := fun t v hv => by
    have := hs.slots t v hv
    have := (Array.getElem?_eq_some_iff.1 this).1
    rw [hs.size] at this; exact this
  have nd : Node N l.toArray m env [] [] env := ⟨hlt, fun _ _ => rfl, fun i hi => (by cases hi), fun r hr => (by cases hr)⟩
  have J : HJ P N K l.toArray m env [] [] env C (Array.replicate l.toArray.size false) a (w.drewN (n + 1)) :=
    ⟨inv0, hs.defers, hs.size, fun i _ hl => (by rw [getD_replicate_false] at hl; cases hl), fun i _ _ _ _ _ hl => (by rw [getD_replicate_false] at hl; cases hl), fun t v hv _ => hs.slots t v hv, ⟨w, n + 1, Nat.le_succ_of_le hk, hC, rfl⟩, fun i hi => (by cases hi)⟩
  have hleft : leftOf m (Array.replicate l.toArray.size false) = m := by
    unfold leftOf
    rw [show (fun i => !(Array.replicate l.toArray.size false).getD i false) = fun _ => true from funext fun i => by rw [getD_replicate_false]; rfl]
    simp
  have hms : m ≤ l.toArray.size := (headB_spec hB).1
  have := HT.sound (Q := Q) (l0 := env) hB hTB (fun l' w' ht => by simpa using ht) m [] [] env C h _ a _ nd J hleft
  rw [show m + (l.toArray.size - m) = l.toArray.size by omega] at this
  exact this
end
end Go.Lv
