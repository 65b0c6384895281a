import Derived.Test.YtpnoddfjklcahaaDa5
set_option linter.all false
namespace Go.Shoal
open Go Go.Lv

/-! ### the document's functions on logs, and one entry more -/
def insL {α : Type} (l : List α) (i : Nat) (x : α) : List α := l.take i ++ x :: l.drop i
theorem insL_len {α : Type} {l : List α} {i : Nat} {x : α} : (insL l i x).length = l.length + 1 := by unfold insL; simp; omega
def keyE (x y : En) : Bool := decide (x.f = y.f) && decide (x.n = y.n)
theorem keyE_ord {x y : En} : keyE x y = true ↔ ord x y = 0 := by simp [keyE, ord_zero]
def restE (x : En) : List En → List En
  | [] => []
  | y :: r => if keyE y x then r else y :: r
def addB (l : List En) (x : En) : List En := l.take (pos l x) ++ x :: restE x (l.drop (pos l x))
def addR (l : List En) (x : En) : List En := if (good l && may x) = true then addB l x else l
def addT (l : List En) (x : En) : List En := if (good l && may x) = true then (if there l x = true then l.set (pos l x) x else insL l (pos l x) x) else l

theorem pos_le (l : List En) (x : En) : pos l x ≤ l.length := by unfold pos; exact (List.takeWhile_prefix _).length_le
theorem addT_addR (l : List En) (x : En) : addT l x = addR l x := by
  unfold addT addR
  split
  · unfold addB there
    cases hy : l[pos l x]? with
    | none =>
      have : l.length ≤ pos l x := List.getElem?_eq_none_iff.1 hy
      simp [insL, restE, List.drop_eq_nil_of_le this]
    | some y =>
      obtain ⟨hlt, rfl⟩ := List.getElem?_eq_some_iff.1 hy
      rw [drop_at hy]
      by_cases h0 : ord l[pos l x] x = 0
      · simp only [h0, decide_true, if_true, restE, keyE_ord.2 h0]
        rw [List.set_eq_take_append_cons_drop, if_pos hlt]
      · have : keyE l[pos l x] x = false := by
          cases hk : keyE l[pos l x] x with
          | false => rfl
          | true => exact absurd (keyE_ord.1 hk) h0
        simp only [decide_eq_false h0, restE, this, insL, drop_at hy]
        simp
  · rfl
theorem restE_len (x : En) (l : List En) : (restE x l).length ≤ l.length := by
  cases l with
  | nil => simp [restE]
  | cons y r => simp only [restE]; split <;> simp
theorem restE_yes {d : List En} {x y : En} (hy : d[0]? = some y) (hf : y.f = x.f) (hn : y.n.toNat = x.n.toNat) : restE x d = d.drop 1 := by
  cases d with
  | nil => simp at hy
  | cons a r =>
    simp only [List.getElem?_cons_zero, Option.some.injEq] at hy
    subst hy
    simp [restE, keyE_ord.2 (ord_zero.2 ⟨hf, BitVec.eq_of_toNat_eq hn⟩)]
theorem restE_nil {d : List En} {x : En} (h : ¬ d.length > 0) : restE x d = d := by
  cases d with
  | nil => rfl
  | cons a r => simp at h
theorem restE_no {d : List En} {x y : En} (hy : d[0]? = some y) (h : ¬ (y.f = x.f ∧ y.n.toNat = x.n.toNat)) : restE x d = d := by
  cases d with
  | nil => rfl
  | cons a r =>
    simp only [List.getElem?_cons_zero, Option.some.injEq] at hy
    subst hy
    simp only [restE]
    rw [if_neg]
    intro hk
    obtain ⟨h1, h2⟩ := ord_zero.1 (keyE_ord.1 hk)
    exact h ⟨h1, by rw [h2]⟩
theorem addR_len (l : List En) (x : En) : (addR l x).length ≤ l.length + 1 := by
  unfold addR
  split
  · unfold addB
    have := restE_len x (l.drop (pos l x))
    have := pos_le l x
    simp only [List.length_append, List.length_cons, List.length_take, List.length_drop] at *
    omega
  · omega
theorem addB_ins : ∀ {l : List En} {x : En}, (∀ y ∈ l, Apart y x) → addB l x = insE x l
  | [], x, _ => by simp [addB, pos, restE, insE]
  | y :: r, x, h => by
    have hy : ord y x ≠ 0 := h y (by simp)
    have ih := addB_ins (l := r) (x := x) fun z hz => h z (List.mem_cons_of_mem _ hz)
    unfold insE
    by_cases hl : ord y x < 0
    · have h1 : ¬ ord x y < 0 := fun h2 => by have := ord_anti.1 h2; omega
      have hp : pos (y :: r) x = pos r x + 1 := by simp [pos, List.takeWhile, hl]
      rw [if_neg h1, ← ih]
      simp [addB, hp]
    · have h1 : ord x y < 0 := ord_anti.2 (by omega)
      have hp : pos (y :: r) x = 0 := by simp [pos, List.takeWhile, hl]
      have hk : keyE y x = false := by
        cases hk : keyE y x with
        | false => rfl
        | true => exact absurd (keyE_ord.1 hk) hy
      rw [if_pos h1]
      simp [addB, hp, restE, hk]
theorem addR_new {l : List En} {x : En} (hg : good l = true) (hm : may x = true) (h : ∀ y ∈ l, Apart y x) : good (addR l x) = true ∧ ∀ z, z ∈ addR l x ↔ z = x ∨ z ∈ l := by
  have e : addR l x = insE x l := by unfold addR; rw [if_pos (by rw [hg, hm]; rfl), addB_ins h]
  rw [e]
  refine ⟨good_iff.2 ⟨insE_rise x (good_rise hg) fun y hy => apart_symm (h y hy), fun z hz => ?_⟩, fun z => by rw [(insE_perm x l).mem_iff]; simp⟩
  rcases List.mem_cons.1 ((insE_perm x l).mem_iff.1 hz) with rfl | hz
  · exact hm
  · exact good_may hg z hz
theorem fold_add : ∀ {xs r : List En}, good r = true → xs.Pairwise Apart → (∀ x ∈ xs, may x = true) → (∀ x ∈ xs, ∀ y ∈ r, Apart y x) → good (xs.foldl addR r) = true ∧ ∀ z, z ∈ xs.foldl addR r ↔ z ∈ r ∨ z ∈ xs
  | [], r, hg, _, _, _ => ⟨hg, by simp⟩
  | x :: xs, r, hg, hp, hm, ha => by
    obtain ⟨p1, p2⟩ := List.pairwise_cons.1 hp
    obtain ⟨g1, m1⟩ := addR_new hg (hm x (by simp)) (ha x (by simp))
    obtain ⟨g2, m2⟩ := fold_add (xs := xs) (r := addR r x) g1 p2 (fun z hz => hm z (List.mem_cons_of_mem _ hz)) fun z hz y hy => by
      rcases (m1 y).1 hy with rfl | hy
      · exact p1 z hz
      · exact ha z (List.mem_cons_of_mem _ hz) y hy
    refine ⟨g2, fun z => ?_⟩
    rw [List.foldl_cons, m2, m1]
    simp only [List.mem_cons]
    constructor
    · rintro ((h | h) | h)
      · exact .inr (.inl h)
      · exact .inl h
      · exact .inr (.inr h)
    · rintro (h | h | h)
      · exact .inl (.inr h)
      · exact .inl (.inl h)
      · exact .inr h

/-! find: the place of an entry, and whether a later one is known -/
def atS (l : List En) (x : En) : Nat → Int
  | 0 => -1
  | i + 1 => match l[i]? with
    | some y => if keyE y x = true then (i : Int) else atS l x i
    | none => atS l x i
def moreS (l : List En) (x : En) (i : Nat) : Bool := (l.take i).any fun y => decide (y.f = x.f) && decide (y.n.toNat > x.n.toNat)
theorem atS_step {l : List En} {x y : En} {i : Nat} (h : l[i]? = some y) : atS l x (i + 1) = if keyE y x = true then (i : Int) else atS l x i := by simp only [atS, h]
theorem moreS_step {l : List En} {x y : En} {i : Nat} (h : l[i]? = some y) : moreS l x (i + 1) = (moreS l x i || (decide (y.f = x.f) && decide (y.n.toNat > x.n.toNat))) := by
  unfold moreS; rw [List.take_add_one, h, List.any_append]; simp
theorem atS_spec {l : List En} {x : En} : ∀ {i : Nat}, i ≤ l.length → (atS l x i = -1 ∧ ∀ k y, k < i → l[k]? = some y → ord y x ≠ 0) ∨ ∃ (k : Nat) (y : En), atS l x i = (k : Int) ∧ k < i ∧ l[k]? = some y ∧ ord y x = 0
  | 0, _ => .inl ⟨rfl, fun k y hk => by omega⟩
  | i + 1, hi => by
    obtain ⟨y, hy⟩ : ∃ y, l[i]? = some y := ⟨l[i], List.getElem?_eq_getElem (by omega)⟩
    rw [atS_step hy]
    by_cases hk : keyE y x = true
    · rw [if_pos hk]; exact .inr ⟨i, y, rfl, by omega, hy, keyE_ord.1 hk⟩
    · rw [if_neg hk]
      rcases atS_spec (l := l) (x := x) (i := i) (by omega) with ⟨h1, h2⟩ | ⟨k, z, h1, h2, h3, h4⟩
      · refine .inl ⟨h1, fun k z hk2 hz => ?_⟩
        by_cases e : k = i
        · subst e; rw [hy] at hz; cases hz; exact fun h => hk (keyE_ord.2 h)
        · exact h2 k z (by omega) hz
      · exact .inr ⟨k, z, h1, by omega, h3, h4⟩
theorem atS_lt {l : List En} {x : En} (h : 0 ≤ atS l x l.length) : ∃ (k : Nat) (y : En), atS l x l.length = (k : Int) ∧ l[k]? = some y ∧ ord y x = 0 := by
  rcases atS_spec (l := l) (x := x) (i := l.length) (Nat.le_refl _) with ⟨h1, _⟩ | ⟨k, y, h1, _, h3, h4⟩
  · omega
  · exact ⟨k, y, h1, h3, h4⟩
theorem atS_there {l : List En} (hl : Rise l) {x : En} : 0 ≤ atS l x l.length ↔ there l x = true := by
  rw [there_iff hl]
  constructor
  · intro h
    obtain ⟨k, y, _, h3, h4⟩ := atS_lt h
    exact ⟨y, List.mem_of_getElem? h3, h4⟩
  · rintro ⟨y, hy, h0⟩
    rcases atS_spec (l := l) (x := x) (i := l.length) (Nat.le_refl _) with ⟨_, h2⟩ | ⟨k, z, h1, _⟩
    · obtain ⟨j, hj, rfl⟩ := List.getElem_of_mem hy
      exact absurd h0 (h2 j _ hj (List.getElem?_eq_getElem hj))
    · omega
theorem lastN_spec {l : List En} (hl : Rise l) (n : Int) : ∀ {i : Nat}, i ≤ l.length → (lastN (l.take i) n = none ∧ ∀ y ∈ l.take i, y.f ≠ n) ∨ ∃ m, lastN (l.take i) n = some m ∧ (∃ y ∈ l.take i, y.f = n ∧ y.n = m) ∧ ∀ z ∈ l.take i, z.f = n → z.n.toNat ≤ m.toNat
  | 0, _ => .inl ⟨rfl, by simp⟩
  | i + 1, hi => by
    obtain ⟨y, hy⟩ : ∃ y, l[i]? = some y := ⟨l[i], List.getElem?_eq_getElem (by omega)⟩
    have e : l.take (i + 1) = l.take i ++ [y] := by rw [List.take_add_one, hy]; rfl
    have e2 : lastN (l.take (i + 1)) n = if n = y.f then some y.n else lastN (l.take i) n := by rw [e]; simp [lastN, List.foldl_append]
    have hlow : ∀ z ∈ l.take i, ord z y < 0 := fun z hz => by
      obtain ⟨j, hj, rfl⟩ := List.getElem_of_mem hz
      have hj' : j < i := by simp at hj; omega
      refine rise_lt hl hj' (x := (l.take i)[j]) ?_ hy
      have hj2 : j < l.length := by omega
      rw [List.getElem_take]; exact List.getElem?_eq_getElem hj2
    rw [e2]
    by_cases hf : n = y.f
    · rw [if_pos hf]
      refine .inr ⟨y.n, rfl, ⟨y, by rw [e]; simp, hf.symm, rfl⟩, fun z hz hzf => ?_⟩
      rw [e, List.mem_append] at hz
      rcases hz with hz | hz
      · have := ord_lt.1 (hlow z hz); omega
      · simp at hz; subst hz; exact Nat.le_refl _
    · rw [if_neg hf]
      rcases lastN_spec hl n (i := i) (by omega) with ⟨h1, h2⟩ | ⟨m, h1, ⟨w, h2, h3⟩, h4⟩
      · refine .inl ⟨h1, fun z hz => ?_⟩
        rw [e, List.mem_append] at hz
        rcases hz with hz | hz
        · exact h2 z hz
        · simp at hz; subst hz; exact fun h => hf h.symm
      · refine .inr ⟨m, h1, ⟨w, by rw [e]; simp [h2], h3⟩, fun z hz hzf => ?_⟩
        rw [e, List.mem_append] at hz
        rcases hz with hz | hz
        · exact h4 z hz hzf
        · simp at hz; subst hz; exact absurd hzf.symm hf
theorem isNew_more {l : List En} (hl : Rise l) {x : En} (hm : may x = true) (ht : there l x = false) : isNew l x = !moreS l x l.length := by
  have hn : 0 < x.n.toNat := by
    unfold may at hm
    simp only [Bool.and_eq_true, decide_eq_true_eq] at hm
    omega
  unfold isNew moreS
  rw [ht, List.take_length]
  simp only [Bool.not_false, Bool.true_and]
  have hno : ∀ y ∈ l, y.f = x.f → y.n ≠ x.n := fun y hy hf h => by
    have := (there_iff hl).2 ⟨y, hy, ord_zero.2 ⟨hf, h⟩⟩
    rw [ht] at this; cases this
  rcases lastN_spec hl x.f (i := l.length) (Nat.le_refl _) with ⟨h1, h2⟩ | ⟨m, h1, ⟨y, h2, h3, h5⟩, h4⟩ <;> rw [List.take_length] at *
  · rw [h1]
    have : (l.any fun y => decide (y.f = x.f) && decide (y.n.toNat > x.n.toNat)) = false := by
      rw [List.any_eq_false]
      intro y hy
      simp [h2 y hy]
    rw [this]
    simpa using hn
  · rw [h1]
    have hne : m.toNat ≠ x.n.toNat := fun h => hno y h2 h3 (by rw [h5]; exact BitVec.eq_of_toNat_eq h)
    by_cases hlt : m.toNat < x.n.toNat
    · have : (l.any fun y => decide (y.f = x.f) && decide (y.n.toNat > x.n.toNat)) = false := by
        rw [List.any_eq_false]
        intro z hz
        simp only [Bool.and_eq_true, decide_eq_true_eq, not_and]
        intro hf
        have := h4 z hz hf; omega
      rw [this]
      simpa using hlt
    · have : (l.any fun y => decide (y.f = x.f) && decide (y.n.toNat > x.n.toNat)) = true := by
        rw [List.any_eq_true]
        exact ⟨y, h2, by simp only [Bool.and_eq_true, decide_eq_true_eq]; exact ⟨h3, by rw [h5]; omega⟩⟩
      rw [this]
      simpa using hlt

/-! JoinLog -/
def fst1 (b : List En) (x : En) : Option En := if 0 ≤ atS b x b.length then (b[(atS b x b.length).toNat]?).map fun y => { x with t := x.t &&& y.t } else if moreS b x b.length = true then none else some x
def snd1 (a : List En) (x : En) : Option En := if 0 ≤ atS a x a.length then none else if moreS a x a.length = true then none else some x
def joinL (a b : List En) : List En := a.filterMap (fst1 b) ++ b.filterMap (snd1 a)
def joinR (a b : List En) : List En := if (good a && good b) = true then (joinL a b).foldl addR [] else a
theorem fst1_eq {b : List En} (hb : Rise b) {x : En} (hm : may x = true) : fst1 b x = if there b x = true then bothE b x else if isNew b x = true then some x else none := by
  unfold fst1
  by_cases ht : there b x = true
  · rw [if_pos ht, if_pos ((atS_there hb).2 ht)]
    obtain ⟨k, y, h1, h2, h3⟩ := atS_lt ((atS_there hb).2 ht)
    have hv := (there_val hb (List.mem_of_getElem? h2) h3).2
    rw [both_yes ht hv, h1, Int.toNat_natCast, h2]; rfl
  · have hf : there b x = false := by simpa using ht
    rw [if_neg ht, if_neg (fun h => ht ((atS_there hb).1 h)), isNew_more hb hm hf]
    cases moreS b x b.length <;> rfl
theorem snd1_eq {a : List En} (ha : Rise a) {x : En} (hm : may x = true) : snd1 a x = if isNew a x = true then some x else none := by
  unfold snd1
  by_cases ht : there a x = true
  · rw [if_pos ((atS_there ha).2 ht)]
    have : isNew a x = false := by unfold isNew; rw [ht]; rfl
    rw [this]; rfl
  · have hf : there a x = false := by simpa using ht
    rw [if_neg (fun h => ht ((atS_there ha).1 h)), isNew_more ha hm hf]
    cases moreS a x a.length <;> rfl
theorem mem_joinL {a b : List En} (ha : good a = true) (hb : good b = true) {z : En} : z ∈ joinL a b ↔ z ∈ joinU a b := by
  unfold joinL joinU
  simp only [List.mem_append, List.mem_filterMap, newsL, List.mem_filter]
  have h1 : (∃ x, x ∈ a ∧ fst1 b x = some z) ↔ (z ∈ a ∧ isNew b z = true) ∨ z ∈ bothL a b := by
    unfold bothL
    rw [List.mem_filterMap]
    constructor
    · rintro ⟨x, hx, h⟩
      rw [fst1_eq (good_rise hb) (good_may ha x hx)] at h
      split at h
      · exact .inr ⟨x, hx, h⟩
      · split at h
        · cases h; exact .inl ⟨hx, by assumption⟩
        · cases h
    · rintro (⟨hz, hn⟩ | ⟨x, hx, h⟩)
      · refine ⟨z, hz, ?_⟩
        rw [fst1_eq (good_rise hb) (good_may ha z hz), if_neg (by rw [isNew_not hn]; simp), if_pos hn]
      · refine ⟨x, hx, ?_⟩
        rw [fst1_eq (good_rise hb) (good_may ha x hx), if_pos (bothE_some h).1, h]
  have h2 : (∃ x, x ∈ b ∧ snd1 a x = some z) ↔ (z ∈ b ∧ isNew a z = true) := by
    constructor
    · rintro ⟨x, hx, h⟩
      rw [snd1_eq (good_rise ha) (good_may hb x hx)] at h
      split at h
      · cases h; exact ⟨hx, by assumption⟩
      · cases h
    · rintro ⟨hz, hn⟩
      exact ⟨z, hz, by rw [snd1_eq (good_rise ha) (good_may hb z hz), if_pos hn]⟩
  rw [h1, h2]
  constructor
  · rintro ((h | h) | h)
    · exact .inl (.inl h)
    · exact .inr h
    · exact .inl (.inr h)
  · rintro ((h | h) | h)
    · exact .inl (.inl h)
    · exact .inr h
    · exact .inl (.inr h)
theorem fst1_key {b : List En} (hb : Rise b) {x z : En} (hm : may x = true) (h : fst1 b x = some z) : z.f = x.f ∧ z.n = x.n := by
  rw [fst1_eq hb hm] at h
  split at h
  · exact (bothE_some h).2
  · split at h
    · cases h; exact ⟨rfl, rfl⟩
    · cases h
theorem snd1_key {a : List En} (ha : Rise a) {x z : En} (hm : may x = true) (h : snd1 a x = some z) : z = x ∧ there a x = false := by
  rw [snd1_eq ha hm] at h
  split at h
  · cases h; exact ⟨rfl, isNew_not (by assumption)⟩
  · cases h
theorem apart_of_keys {a b x y : En} (h : Apart a b) (h1 : x.f = a.f ∧ x.n = a.n) (h2 : y.f = b.f ∧ y.n = b.n) : Apart x y := by
  unfold Apart at *
  rw [Ne, ord_zero] at *
  rw [h1.1, h1.2, h2.1, h2.2]; exact h
theorem pair_filterMap {f : En → Option En} : ∀ {l : List En}, l.Pairwise Apart → (∀ x ∈ l, ∀ z, f x = some z → z.f = x.f ∧ z.n = x.n) → (l.filterMap f).Pairwise Apart
  | [], _, _ => List.Pairwise.nil
  | x :: r, h, hk => by
    obtain ⟨h1, h2⟩ := List.pairwise_cons.1 h
    have ih := pair_filterMap h2 fun y hy => hk y (List.mem_cons_of_mem _ hy)
    rw [List.filterMap_cons]
    split
    · exact ih
    · rename_i z hz
      refine List.pairwise_cons.2 ⟨fun y hy => ?_, ih⟩
      obtain ⟨w, hw, hwy⟩ := List.mem_filterMap.1 hy
      exact apart_of_keys (h1 w hw) (hk x (by simp) z hz) (hk w (List.mem_cons_of_mem _ hw) y hwy)
theorem joinL_apart {a b : List En} (ha : good a = true) (hb : good b = true) : (joinL a b).Pairwise Apart := by
  unfold joinL
  refine List.pairwise_append.2 ⟨pair_filterMap (apart_of_rise (good_rise ha)) fun x hx z hz => fst1_key (good_rise hb) (good_may ha x hx) hz,
    pair_filterMap (apart_of_rise (good_rise hb)) fun x hx z hz => by obtain ⟨rfl, _⟩ := snd1_key (good_rise ha) (good_may hb x hx) hz; exact ⟨rfl, rfl⟩, fun y hy z hz => ?_⟩
  obtain ⟨x, hx, hxy⟩ := List.mem_filterMap.1 hy
  obtain ⟨w, hw, hwz⟩ := List.mem_filterMap.1 hz
  obtain ⟨rfl, ht⟩ := snd1_key (good_rise ha) (good_may hb w hw) hwz
  have hk := fst1_key (good_rise hb) (good_may ha x hx) hxy
  intro h0
  have : ord x z = 0 := by rw [ord_zero] at *; rw [← hk.1, ← hk.2]; exact h0
  have := (there_iff (good_rise ha)).2 ⟨x, hx, this⟩
  rw [ht] at this; cases this
theorem joinL_may {a b : List En} (ha : good a = true) (hb : good b = true) : ∀ z ∈ joinL a b, may z = true := fun z hz => by
  rw [mem_joinL ha hb, ← mem_joinT ha hb] at hz
  exact good_may (joinT_good ha hb) z hz
theorem joinR_eq (a b : List En) : joinR a b = joinT a b := by
  unfold joinR
  by_cases h : (good a && good b) = true
  · rw [if_pos h]
    have ha : good a = true := by simp at h; exact h.1
    have hb : good b = true := by simp at h; exact h.2
    obtain ⟨g, m⟩ := fold_add (xs := joinL a b) (r := []) rfl (joinL_apart ha hb) (joinL_may ha hb) (by simp)
    refine rise_ext (good_rise g) (joinT_rise ha hb) fun z => ?_
    rw [m, mem_joinL ha hb, mem_joinT ha hb]; simp
  · rw [if_neg h]; unfold joinT; rw [if_neg h]
theorem fold_len : ∀ (xs r : List En), (xs.foldl addR r).length ≤ r.length + xs.length
  | [], r => by simp
  | x :: xs, r => by
    have := fold_len xs (addR r x)
    have := addR_len r x
    simp only [List.foldl_cons, List.length_cons]; omega
theorem fm_step {l : List En} {f : En → Option En} {i : Nat} {x : En} (hx : l[i]? = some x) : (l.take (i + 1)).filterMap f = (l.take i).filterMap f ++ (f x).toList := by
  rw [List.take_add_one, hx, List.filterMap_append]
  congr 1
theorem fm_len (l : List En) (f : En → Option En) (i : Nat) : ((l.take i).filterMap f).length ≤ l.length := Nat.le_trans (List.length_filterMap_le _ _) (by rw [List.length_take]; omega)

/-! LessLog, ButLog -/
def butM (to : BitVec 64) (d : Int) : BitVec 64 := if 0 ≤ d ∧ d ≤ 63 then to &&& ~~~ (BitVec.ofNat 64 (2 ^ d.toNat)) else to
def butR (l : List En) (to : BitVec 64) (d : Int) : List En := if good l = true then l.map (lessE (butM to d)) else l
theorem butR_len (l : List En) (to : BitVec 64) (d : Int) : (butR l to d).length = l.length := by unfold butR; split <;> simp
theorem butM_eq (to : BitVec 64) (d : Int) : to &&& ~~~ ofL [d] = butM to d := by
  unfold butM ofL
  simp only [List.foldl_cons, List.foldl_nil, ofS]
  by_cases h : 0 ≤ d ∧ d ≤ 63
  · rw [if_pos h, if_pos (by omega)]; congr 2; exact BitVec.zero_or
  · rw [if_neg h, if_neg (by omega)]
    exact BitVec.and_allOnes (x := to)
theorem butT_butR (l : List En) (to : BitVec 64) (d : Int) : butT l to d = butR l to d := by unfold butT butR lessT; rw [butM_eq]
theorem lessT_butR (l : List En) (to : BitVec 64) : lessT l to = butR l to (-1) := by
  have h : butM to (-1) = to := by unfold butM; rw [if_neg (by omega)]
  unfold butR lessT; rw [h]
end Go.Shoal
