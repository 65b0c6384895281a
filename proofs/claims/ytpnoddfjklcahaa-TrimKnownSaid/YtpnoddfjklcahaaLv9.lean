import Derived.Test.YtpnoddfjklcahaaLv8
set_option linter.all false
namespace Go.Lv
open Go.RowKit

/-! A region that draws its order and makes memory, but changes none: what each operation hands is told by a fact that new memory leaves as it is. -/

structure Ent where
  i : Nat
  t : Nat
  own : Bool
  S : Value → World → Prop

/-- the block that a value points into -/
def vblk : Value → Option Nat
  | .pointer (some a) => some a.block
  | .slice (some a) _ _ => some a.block
  | .map (some b) => some b
  | .agg cs => match (cs[0]? : Option Value) with
    | some (Value.slice (some a) _ _) => some a.block
    | _ => none
  | _ => none
def Fresh (own : Bool) (v : Value) (w w1 : World) : Prop := own = true → ∀ b, vblk v = some b → w.heap.size ≤ b ∧ b < w1.heap.size

def Ask (w : World) (k : Env → Prop) : List Ent → Env → Prop
  | [], l => k l
  | e :: r, l => ∀ v, e.S v w → Ask w k r ((e.t, v) :: l)

def findE : List Ent → Nat → Option Ent
  | [], _ => none
  | e :: r, j => match Nat.beq e.i j with
    | true => some e
    | false => findE r j

def pickE (G : List Ent) : List Nat → List Ent
  | [] => []
  | j :: r => match findE G j with
    | some e => e :: pickE G r
    | none => pickE G r

theorem findE_mem : ∀ {G : List Ent} {j : Nat} {e : Ent}, findE G j = some e → e ∈ G ∧ e.i = j
  | [], _, _, h => by simp [findE] at h
  | x :: r, j, e, h => by
    simp only [findE] at h
    split at h
    · rename_i hb
      cases h
      exact ⟨by simp, Nat.eq_of_beq_eq_true hb⟩
    · obtain ⟨h1, h2⟩ := findE_mem h
      exact ⟨List.mem_cons_of_mem _ h1, h2⟩
theorem pickE_mem {G : List Ent} : ∀ {js : List Nat} {e : Ent}, e ∈ pickE G js → e ∈ G ∧ e.i ∈ js
  | [], _, h => by simp [pickE] at h
  | j :: r, e, h => by
    simp only [pickE] at h
    split at h
    · rename_i x hx
      obtain ⟨h1, h2⟩ := findE_mem hx
      rcases List.mem_cons.1 h with rfl | h
      · exact ⟨h1, by simp [h2]⟩
      · obtain ⟨a, b⟩ := pickE_mem h; exact ⟨a, List.mem_cons_of_mem _ b⟩
    · obtain ⟨a, b⟩ := pickE_mem h; exact ⟨a, List.mem_cons_of_mem _ b⟩

def Stable (S : Value → World → Prop) : Prop := ∀ v w1 w2, Ext w1 w2 → S v w1 → S v w2

def Dist (G : List Ent) (l : Env) : Prop := ∀ i j e e' v v', Nat.beq i j = false → findE G i = some e → findE G j = some e' → e.own = true → e'.own = true → l.get e.t = some v → l.get e'.t = some v' → ∀ b, vblk v = some b → vblk v' ≠ some b

inductive FL (P : Program) (N : Nat) (ops : Array Oper) (m : Nat) (w0 : World) (l0 : Env) (T : Env → World → Prop) : Nat → List Ent → Prop
  | run {i : Nat} {G : List Ent} {o : Oper} {t : Nat} (js : List Nat) (own : Bool) (S : Value → World → Prop) (ho : ops[i]? = some o) (hd : o.dst = some t) (hN : Nat.blt t N = true) (hj : js.all (reach ops i) = true) (hst : Stable S)
      (h : ∀ w', Ext w0 w' → Ask w' (fun l => guardE ops l o.guard = some true ∧ Eff P N o l (w' = ·) fun v w1 => Ext w' w1 ∧ S v w1 ∧ Fresh own v w' w1) (pickE G js) l0)
      (next : FL P N ops m w0 l0 T (i + 1) (⟨i, t, own, S⟩ :: G)) : FL P N ops m w0 l0 T i G
  | skip {i : Nat} {G : List Ent} {o : Oper} {t : Nat} (js : List Nat) (ho : ops[i]? = some o) (hd : o.dst = some t) (hN : Nat.blt t N = true) (hj : js.all (reach ops i) = true)
      (h : ∀ w', Ext w0 w' → Ask w' (fun l => guardE ops l o.guard = some false) (pickE G js) l0)
      (next : FL P N ops m w0 l0 T (i + 1) (⟨i, t, false, fun v _ => v = undef⟩ :: G)) : FL P N ops m w0 l0 T i G
  | fin {i : Nat} {G : List Ent} (hi : Nat.beq i m = true) (js : List Nat) (h : ∀ w', Ext w0 w' → Ask w' (fun l => Dist G l → T l w') (pickE G js) l0) : FL P N ops m w0 l0 T i G

def GoodF (P : Program) (N : Nat) (ops : Array Oper) (w0 : World) (l0 : Env) (G : List Ent) (k : Nat) : Prop :=
  ∃ o t own S D b, ops[k]? = some o ∧ o.dst = some t ∧ t < N ∧ (⟨k, t, own, S⟩ : Ent) ∈ G ∧ (∀ e ∈ G, e.i = k → e = ⟨k, t, own, S⟩) ∧ (∀ e ∈ D, e ∈ G ∧ reach ops k e.i = true) ∧ Stable S ∧
    (∀ w', Ext w0 w' → Ask w' (fun l => guardE ops l o.guard = some b ∧ (b = true → Eff P N o l (w' = ·) fun v w1 => Ext w' w1 ∧ S v w1 ∧ Fresh own v w' w1)) D l0) ∧ (b = false → own = false ∧ ∀ w, S undef w)

theorem Ask.mono {w : World} {k k' : Env → Prop} (hk : ∀ l, k l → k' l) : ∀ {D : List Ent} {l : Env}, Ask w k D l → Ask w k' D l
  | [], _, h => hk _ h
  | _ :: _, _, h => fun v hv => Ask.mono hk (h v hv)

theorem FL.table {P : Program} {N : Nat} {ops : Array Oper} {m : Nat} {w0 : World} {l0 : Env} {T : Env → World → Prop} {i : Nat} {G : List Ent} (H : FL P N ops m w0 l0 T i G) : (∀ e ∈ G, e.i < i) → i ≤ m →
    ∃ F : List Ent, (∀ e ∈ G, e ∈ F) ∧ (∀ e ∈ F, e.i < i → e ∈ G) ∧ (∀ e ∈ F, e.i < m) ∧ (∀ k, i ≤ k → k < m → GoodF P N ops w0 l0 F k) ∧ ∃ D, (∀ e ∈ D, e ∈ F) ∧ ∀ w', Ext w0 w' → Ask w' (fun l => Dist F l → T l w') D l0 := by
  have core : ∀ {i : Nat} {G : List Ent} {o : Oper} {t : Nat} (js : List Nat) (own : Bool) (S : Value → World → Prop) (b : Bool), ops[i]? = some o → o.dst = some t → Nat.blt t N = true → js.all (reach ops i) = true → Stable S →
      (∀ w', Ext w0 w' → Ask w' (fun l => guardE ops l o.guard = some b ∧ (b = true → Eff P N o l (w' = ·) fun v w1 => Ext w' w1 ∧ S v w1 ∧ Fresh own v w' w1)) (pickE G js) l0) → (b = false → own = false ∧ ∀ w, S undef w) → (∀ e ∈ G, e.i < i) → i < m →
      (∃ F : List Ent, (∀ e ∈ (⟨i, t, own, S⟩ : Ent) :: G, e ∈ F) ∧ (∀ e ∈ F, e.i < i + 1 → e ∈ (⟨i, t, own, S⟩ : Ent) :: G) ∧ (∀ e ∈ F, e.i < m) ∧ (∀ k, i + 1 ≤ k → k < m → GoodF P N ops w0 l0 F k) ∧ ∃ D, (∀ e ∈ D, e ∈ F) ∧ ∀ w', Ext w0 w' → Ask w' (fun l => Dist F l → T l w') D l0) →
      ∃ F : List Ent, (∀ e ∈ G, e ∈ F) ∧ (∀ e ∈ F, e.i < i → e ∈ G) ∧ (∀ e ∈ F, e.i < m) ∧ (∀ k, i ≤ k → k < m → GoodF P N ops w0 l0 F k) ∧ ∃ D, (∀ e ∈ D, e ∈ F) ∧ ∀ w', Ext w0 w' → Ask w' (fun l => Dist F l → T l w') D l0 := by
    intro i G o t js own S b ho hd hN hj hst h hb hG him ⟨F, h1, h2, h3, h4, h5⟩
    refine ⟨F, fun e he => h1 e (List.mem_cons_of_mem _ he), fun e he hlt => ?_, h3, fun k hk hkm => ?_, h5⟩
    · rcases List.mem_cons.1 (h2 e he (by omega)) with rfl | h
      · simp at hlt
      · exact h
    · rcases Nat.lt_or_ge i k with hlt | hge
      · exact h4 k hlt hkm
      · have : k = i := by omega
        subst this
        refine ⟨o, t, own, S, pickE G js, b, ho, hd, by simpa [Nat.blt_eq] using hN, h1 _ (by simp), fun e he hei => ?_, fun e he => ?_, hst, h, hb⟩
        · rcases List.mem_cons.1 (h2 e he (by omega)) with h | h
          · exact h
          · have := hG e h; omega
        · obtain ⟨a, b⟩ := pickE_mem he
          exact ⟨h1 e (List.mem_cons_of_mem _ a), List.all_eq_true.1 hj _ b⟩
  have lift : ∀ {i : Nat} {G : List Ent} {own : Bool} {S : Value → World → Prop} {t : Nat}, (∀ e ∈ G, e.i < i) → ∀ e ∈ (⟨i, t, own, S⟩ : Ent) :: G, e.i < i + 1 := by
    intro i G own S t hG e he
    rcases List.mem_cons.1 he with rfl | h
    · exact Nat.lt_succ_self _
    · have := hG e h; omega
  induction H with
  | @run i G o t js own S ho hd hN hj hst h next ih =>
    intro hG him
    rcases Nat.lt_or_ge i m with hlt | hge
    · exact core js own S true ho hd hN hj hst (fun w' hw => Ask.mono (fun l hl => ⟨hl.1, fun _ => hl.2⟩) (h w' hw)) (by simp) hG hlt (ih (lift hG) hlt)
    · exfalso
      have hs : ∀ {j : Nat} {G : List Ent}, FL P N ops m w0 l0 T j G → j ≤ m := by
        intro j G H
        induction H with
        | run _ _ _ _ _ _ _ _ _ _ ih => omega
        | skip _ _ _ _ _ _ _ ih => omega
        | fin hi _ _ => exact Nat.le_of_eq (Nat.eq_of_beq_eq_true hi)
      have := hs next; omega
  | @skip i G o t js ho hd hN hj h next ih =>
    intro hG him
    rcases Nat.lt_or_ge i m with hlt | hge
    · exact core js false (fun v _ => v = undef) false ho hd hN hj (fun _ _ _ _ h => h) (fun w' hw => Ask.mono (fun l hl => ⟨hl, by simp⟩) (h w' hw)) (fun _ => ⟨rfl, fun _ => rfl⟩) hG hlt (ih (lift hG) hlt)
    · exfalso
      have hs : ∀ {j : Nat} {G : List Ent}, FL P N ops m w0 l0 T j G → j ≤ m := by
        intro j G H
        induction H with
        | run _ _ _ _ _ _ _ _ _ _ ih => omega
        | skip _ _ _ _ _ _ _ ih => omega
        | fin hi _ _ => exact Nat.le_of_eq (Nat.eq_of_beq_eq_true hi)
      have := hs next; omega
  | @fin i G hi js h =>
    intro hG him
    have := Nat.eq_of_beq_eq_true hi
    subst this
    exact ⟨G, fun e he => he, fun e he _ => he, hG, fun k h1 h2 => by omega, pickE G js, fun e he => (pickE_mem he).1, h⟩

section
variable {P : Program} {N K : Nat} {ops : Array Oper} {m : Nat} {Q : Exit → Act → World → Prop} {w0 : World} {l0 : Env} {F : List Ent}

structure FJ (N K : Nat) (ops : Array Oper) (m : Nat) (w0 : World) (l0 : Env) (F : List Ent) (listed : Array Bool) (a : Act) (w' : World) : Prop where
  inv : HeadInv .any ops m listed
  defers : a.defers = []
  size : a.tmps.size = N
  old : ∀ t v, l0.get t = some v → a.tmps[t]? = some v
  cls : ∃ w1 n, K ≤ n ∧ Ext w0 w1 ∧ w' = w1.drewN n ∧ (∀ e ∈ F, listed.getD e.i false = true → ∃ v, a.tmps[e.t]? = some v ∧ e.S v w1) ∧
    (∀ e ∈ F, listed.getD e.i false = true → e.own = true → ∀ v, a.tmps[e.t]? = some v → ∀ b, vblk v = some b → b < w1.heap.size) ∧
    ∀ e ∈ F, ∀ e' ∈ F, listed.getD e.i false = true → listed.getD e'.i false = true → e.own = true → e'.own = true → e.i ≠ e'.i → ∀ v v', a.tmps[e.t]? = some v → a.tmps[e'.t]? = some v' → ∀ b, vblk v = some b → vblk v' ≠ some b

theorem Ask.get {w : World} {k : Env → Prop} {a : Act} : ∀ {D : List Ent} {l : Env}, Ask w k D l → (∀ e ∈ D, ∃ v, a.tmps[e.t]? = some v ∧ e.S v w) → (∀ t v, l.get t = some v → a.tmps[t]? = some v) →
    ∃ l', k l' ∧ ∀ t v, l'.get t = some v → a.tmps[t]? = some v
  | [], l, h, _, hl => ⟨l, h, hl⟩
  | e :: r, l, h, hD, hl => by
    obtain ⟨v, hv, hS⟩ := hD e (by simp)
    refine Ask.get (h v hS) (fun e' he' => hD e' (List.mem_cons_of_mem _ he')) (fun t u hu => ?_)
    by_cases et : e.t = t
    · subst et
      rw [Env.get_cons_same] at hu
      cases hu; exact hv
    · rw [Env.get_cons_ne v l et] at hu; exact hl t u hu

def freshB (ops : Array Oper) (m : Nat) (l0 : Env) : Bool := (ops.toList.take m).all fun o => match o.dst with
  | none => true
  | some t => (l0.get t).isNone

theorem FJ.act (hB : headB ops m = true) (hfr : freshB ops m l0 = true) (hF : ∀ k, k < m → GoodF P N ops w0 l0 F k) (hlt : ∀ e ∈ F, e.i < m) {listed : Array Bool} {a : Act} {w' : World} (J : FJ N K ops m w0 l0 F listed a w')
    {i : Nat} (hr : i ∈ Region.ready .any ops listed) (him : i < m) {KK : Act → World → Prop} (hK : ∀ a' w'', FJ N K ops m w0 l0 F (listed.setIfInBounds i true) a' w'' → KK a' w'') : wpOp P ops Q i KK a w' := by
  obtain ⟨hun, o', ho', hpre⟩ := mem_ready.1 hr
  obtain ⟨o, t, own, S, D, b, ho, hd, hN, hmem, huniq, hD, hst, hrun, hb⟩ := hF i him
  have : o' = o := Option.some.inj (ho'.symm.trans ho)
  subst this
  obtain ⟨hm, hh⟩ := headB_spec hB
  obtain ⟨o2, hat⟩ := hh i him
  have : o2 = o' := Option.some.inj (hat.op.symm.trans ho)
  subst this
  have hsize : i < listed.size := by rw [J.inv.size]; omega
  obtain ⟨w1, n, hkn, hext, rfl, hfacts, hlow, hdist⟩ := J.cls
  obtain ⟨l, ⟨hg, heff⟩, hl⟩ := Ask.get (a := a) (hrun w1 hext) (fun e he => hfacts e (hD e he).1 (reach_ready J.inv ho hpre (hD e he).2)) J.old
  have hst' : St N l a := ⟨J.defers, J.size, hl⟩
  have slotNe : ∀ e ∈ F, e.i ≠ i → o2.dst ≠ some e.t := by
    intro e he ei h
    obtain ⟨oe, te, _, Se, _, _, hoe, hde, _, _, hue, _⟩ := hF e.i (hlt e he)
    have he2 := hue e he rfl
    have hte : e.t = te := by rw [he2]
    exact hat.once e.i oe e.t (hlt e he) hoe (fun h2 => ei h2.symm) h (by rw [hte]; exact hde)
  have next : ∀ v (w2 : World), Ext w1 w2 → S v w2 → Fresh own v w1 w2 → ∀ q, K ≤ q → KK (a.put o2.dst v) (w2.drewN q) := by
    intro v w2 h12 hS hfv q hq
    have hself : (a.put o2.dst v).tmps[t]? = some v := by rw [hd]; simp [Act.put, J.size, hN]
    refine hK _ _ ⟨J.inv.set hr him, by rw [put_defers]; exact J.defers, by rw [put_size]; exact J.size, fun t' u hu => ?_, w2, q, hq, hext.ext h12, rfl, fun e he hl => ?_, fun e he hl ho2 u hu c hc => ?_, fun e he e' he' hl hl' ho2 ho2' hne u u' hu hu' c hc => ?_⟩
    · have hne : o2.dst ≠ some t' := by
        intro e
        have h1 : o2 ∈ ops.toList.take m := by
          rw [List.mem_take_iff_getElem]
          obtain ⟨hlt2, heq⟩ := Array.getElem?_eq_some_iff.1 ho
          exact ⟨i, by simp; omega, by simpa using heq⟩
        have := List.all_eq_true.1 hfr o2 h1
        simp only [e, hu] at this
        cases this
      rw [put_get_ne v hne]; exact J.old t' u hu
    · by_cases ei : e.i = i
      · have := huniq e he ei
        subst this
        exact ⟨v, hself, hS⟩
      · rcases listed_set hl with h | h
        · exact absurd h ei
        · obtain ⟨u, hu, hSu⟩ := hfacts e he h
          obtain ⟨oe, te, _, Se, _, _, hoe, hde, _, _, hue, _, hste, _, _⟩ := hF e.i (hlt e he)
          have he2 := hue e he rfl
          refine ⟨u, by rw [put_get_ne v (slotNe e he ei)]; exact hu, ?_⟩
          have hSe : e.S = Se := by rw [he2]
          rw [hSe] at hSu ⊢
          exact hste u _ _ h12 hSu
    · by_cases ei : e.i = i
      · have := huniq e he ei
        subst this
        rw [hself] at hu
        cases hu
        exact (hfv ho2 c hc).2
      · rcases listed_set hl with h | h
        · exact absurd h ei
        · rw [put_get_ne v (slotNe e he ei)] at hu
          exact Nat.lt_of_lt_of_le (hlow e he h ho2 u hu c hc) h12.size
    · by_cases ei : e.i = i
      · have := huniq e he ei
        subst this
        rw [hself] at hu
        cases hu
        have ei' : e'.i ≠ i := fun h => hne h.symm
        rcases listed_set hl' with h | h
        · exact absurd h ei'
        · rw [put_get_ne v (slotNe e' he' ei')] at hu'
          intro hc'
          have := hlow e' he' h ho2' u' hu' c hc'
          have := (hfv ho2 c hc).1
          omega
      · rcases listed_set hl with h | h
        · exact absurd h ei
        · rw [put_get_ne v (slotNe e he ei)] at hu
          by_cases ei' : e'.i = i
          · have := huniq e' he' ei'
            subst this
            rw [hself] at hu'
            cases hu'
            intro hc'
            have := hlow e he h ho2 u hu c hc
            have := (hfv ho2' c hc').1
            omega
          · rcases listed_set hl' with h' | h'
            · exact absurd h' ei'
            · rw [put_get_ne v (slotNe e' he' ei')] at hu'
              exact hdist e he e' he' h h' ho2 ho2' hne u u' hu hu' c hc
  unfold wpOp
  simp only [ho]
  rw [wanted_of hst' hg]
  cases hbb : b with
  | false =>
    rw [if_neg Bool.false_ne_true]
    exact next undef w1 (Ext.refl _) ((hb hbb).2 w1) (fun h => by rw [(hb hbb).1] at h; cases h) n hkn
  | true =>
    rw [if_pos rfl]
    refine .inl ?_
    have := heff hbb w1 rfl a n hst'
    unfold Oper.wp
    rcases this with ⟨v, w2, q, h0, h, h1, h2, h3⟩ | ⟨w2, q, h0, h, h1, h2, h3⟩ | ⟨f, args, h, hcall⟩
    · rw [h]; exact next v w2 h1 h2 h3 q (Nat.le_trans hkn h0)
    · rw [h]; exact next undef w2 h1 h2 h3 q (Nat.le_trans hkn h0)
    · rw [h]
      refine Calls.mono hcall fun e w'' ⟨v, w2, q, h0, h1, h2, h3, h4, h5⟩ => ?_
      subst h1
      subst h2
      exact next v w2 h3 h4 h5 q (Nat.le_trans hkn h0)

theorem FJ.sound (hB : headB ops m = true) (hTB : tailB ops m = true) (hfr : freshB ops m l0 = true) (hF : ∀ k, k < m → GoodF P N ops w0 l0 F k) (hlt : ∀ e ∈ F, e.i < m) {T : Env → World → Prop} {D : List Ent} (hD : ∀ e ∈ D, e ∈ F)
    (hE : ∀ w', Ext w0 w' → Ask w' (fun l => Dist F l → T l w') D l0) (hT : ∀ l' w', T l' w' → WL P N K ops Q (ops.toList.drop m) l' w') :
    ∀ f listed a w', FJ N K ops m w0 l0 F listed a w' → leftOf m listed = f → wpAny P .any ops Q (f + (ops.size - m)) listed a w' := by
  have hms : m ≤ ops.size := (headB_spec hB).1
  simp only [tailB, Bool.and_eq_true, Bool.or_eq_true, decide_eq_true_eq] at hTB
  have htail : m < ops.size → Region.sinkB .any ops m = true ∧ Region.chainB .any ops m = true := fun h => by
    rcases hTB.1 with h1 | h1
    · omega
    · exact h1
  intro f
  induction f with
  | zero =>
    intro listed a w' J hf
    have hfull := leftOf_zero hf
    have hl := full_of J.inv hfull
    obtain ⟨w1, n, hkn, hext, rfl, hfacts, _, hdist⟩ := J.cls
    obtain ⟨l, hTl, hget⟩ := Ask.get (a := a) (hE w1 hext) (fun e he => hfacts e (hD e he) (hfull e.i (hlt e (hD e he)))) J.old
    have hd : Dist F l := fun i j e e' v v' hij he he' ho ho' hv hv' b hb => by
      obtain ⟨h1, h2⟩ := findE_mem he
      obtain ⟨h3, h4⟩ := findE_mem he'
      refine hdist e h1 e' h3 (hfull _ (hlt e h1)) (hfull _ (hlt e' h3)) ho ho' (fun h => ?_) v v' (hget _ _ hv) (hget _ _ hv') b hb
      rw [h2, h4] at h; subst h; rw [Nat.beq_refl] at hij; cases hij
    have hwl := hT l w1 (hTl hd) a n hkn ⟨J.defers, J.size, hget⟩
    have hlen : (ops.toList.drop m).length = ops.size - m := by simp
    have := wpAny_of_seq (md := .any) (ops := ops) (Q' := Q) (ops.toList.drop m) m listed a (w1.drewN n) (fun j => by simp [List.getElem?_drop]) (by rw [hlen, hl]; exact hTB.2) hwl
    rw [hlen] at this
    rw [Nat.zero_add]; exact this
  | succ f ihf =>
    intro listed a w' J hf
    obtain ⟨k, hk, hku⟩ := leftOf_pos hf
    rw [show f + 1 + (ops.size - m) = (f + (ops.size - m)) + 1 by omega]
    refine ⟨fun h0 => ?_, fun i hi => ?_⟩
    · obtain ⟨i, hi⟩ := ready_some hB J.inv k hk hku
      rw [h0] at hi; cases hi
    · have him := ready_lt hB htail J.inv hk hku hi
      have hun := getD_both (mem_ready.1 hi).1
      refine FJ.act hB hfr hF hlt J hi him fun a' w'' J' => ?_
      refine ihf _ a' w'' J' ?_
      have := leftOf_set (m := m) him (by rw [J.inv.size]; omega) hun
      omega

theorem W.region_flat {id : Nat} {l : List Oper} {env : Env} {w : World} (m : Nat) (hm : P.follows .mixedOrders = true) (hB : headB l.toArray m = true) (hTB : tailB l.toArray m = true) (hfr : freshB l.toArray m env = true)
    (h : FL P N l.toArray m w env (fun l' w' => WL P N K l.toArray Q (l.drop m) l' w') 0 []) : W P N K (.region id l.toArray true) Q env w := by
  intro a n hk hs
  refine wp_region_any hm ?_
  rw [drew_eq]
  have inv0 : HeadInv .any l.toArray m (Array.replicate l.toArray.size false) :=
    ⟨by simp, fun j oj _ hl => (by rw [getD_replicate_false] at hl; cases hl), fun t _ ht => getD_in (by simpa using ht) (getD_replicate_false _ _)⟩
  obtain ⟨F, _, _, hlt, hF, D, hD, hE⟩ := h.table (by simp) (Nat.zero_le _)
  have J : FJ N K l.toArray m w env F (Array.replicate l.toArray.size false) a (w.drewN (n + 1)) :=
    ⟨inv0, hs.defers, hs.size, hs.slots, w, n + 1, Nat.le_succ_of_le hk, Ext.refl _, rfl, fun e _ hl => (by rw [getD_replicate_false] at hl; cases hl), fun e _ hl => (by rw [getD_replicate_false] at hl; cases hl), fun e _ _ _ hl => (by rw [getD_replicate_false] at hl; cases hl)⟩
  have hleft : leftOf m (Array.replicate l.toArray.size false) = m := by
    unfold leftOf
    rw [show (fun i => !(Array.replicate l.toArray.size false).getD i false) = fun _ => true from funext fun i => by rw [getD_replicate_false]; rfl]
    simp
  have hms : m ≤ l.toArray.size := (headB_spec hB).1
  have := FJ.sound (Q := Q) hB hTB hfr (fun k hk => hF k (Nat.zero_le _) hk) hlt hD hE (fun l' w' ht => by simpa using ht) m _ a _ J hleft
  rw [show m + (l.toArray.size - m) = l.toArray.size by omega] at this
  exact this

/-- an operation that reads -/
theorem Eff.yield {o : Oper} {l : Env} {w : World} {v : Value} (h : Yield P N o l w v) : Eff P N o l (w = ·) fun u w1 => Ext w w1 ∧ u = v := by
  rintro _ rfl a n hs
  exact .inl ⟨v, _, n, Nat.le_refl _, h a n hs, Ext.refl _, rfl⟩
theorem Eff.reads {o : Oper} {l : Env} {w : World} {v : Value} {S : Value → World → Prop} (h : Yield P N o l w v) (hS : S v w) : Eff P N o l (w = ·) fun u w1 => Ext w w1 ∧ S u w1 ∧ Fresh false u w w1 := by
  rintro _ rfl a n hs
  exact .inl ⟨v, _, n, Nat.le_refl _, h a n hs, Ext.refl _, hS, fun h => nomatch h⟩
theorem Eff.calls {o : Oper} {l : Env} {w : World} {S : Value → World → Prop} (h : Eff P N o l (w = ·) fun v w1 => Ext w w1 ∧ S v w1) : Eff P N o l (w = ·) fun u w1 => Ext w w1 ∧ S u w1 ∧ Fresh false u w w1 :=
  h.mono fun _ _ h => ⟨h.1, h.2, fun h => nomatch h⟩
theorem Stable.eq (x : Value) : Stable fun v _ => v = x := fun _ _ _ _ h => h
end
end Go.Lv
