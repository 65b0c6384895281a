import Derived.Test.YtpnoddfjklcahaaLv12
set_option linter.all false
namespace Go.Shoal
open Go Go.Lv

/-! Logs: what the program's and the document's functions on them compute. -/

/-- an entry of a log -/
structure En where
  f : Int
  n : BitVec 64
  t : BitVec 64
  deriving DecidableEq
def encEn : Enc En := ⟨3, fun x => [.int .i64 x.f, .int .u64 (x.n.toNat : Int), .int .u64 (x.t.toNat : Int)], fun _ => rfl, by decide, fun x v h => by
  simp only [List.mem_cons, List.not_mem_nil, or_false] at h
  rcases h with rfl | rfl | rfl <;> rfl⟩

def cmpI (a b : Int) : Int := if a < b then -1 else if a > b then 1 else 0
def orL : List Int → Int
  | [] => 0
  | x :: r => if x ≠ 0 then x else orL r
def ord (a b : En) : Int := orL [cmpI a.f b.f, cmpI (a.n.toNat : Int) (b.n.toNat : Int)]
def allM (n : Nat) : BitVec 64 := BitVec.ofNat 64 (2 ^ n - 1)
def within (s t : BitVec 64) : Bool := decide (s &&& ~~~ t = 0)
def may (x : En) : Bool := decide (x.f ≥ 0) && decide (x.f < 16) && decide ((x.n.toNat : Int) > 0) && within x.t (allM 16)

theorem orL_zero {l : List Int} {i : Nat} (h : ∀ j x, j < i → l[j]? = some x → x = 0) {x : Int} (hx : l[i]? = some x) (hn : x ≠ 0) : orL l = x := by
  induction l generalizing i with
  | nil => simp at hx
  | cons y r ih =>
    cases i with
    | zero => simp only [List.getElem?_cons_zero, Option.some.injEq] at hx; subst hx; simp [orL, hn]
    | succ i =>
      have hy := h 0 y (by omega) rfl
      simp only [List.getElem?_cons_succ] at hx
      simp only [orL, hy, ne_eq, not_true_eq_false, if_false]
      exact ih (fun j z hj hz => h (j + 1) z (by omega) (by simpa using hz)) hx
theorem orL_none {l : List Int} (h : ∀ j x, j < l.length → l[j]? = some x → x = 0) : orL l = 0 := by
  induction l with
  | nil => rfl
  | cons y r ih =>
    have hy := h 0 y (by simp) rfl
    simp only [orL, hy, ne_eq, not_true_eq_false, if_false]
    exact ih fun j z hj hz => h (j + 1) z (by simp; omega) (by simpa using hz)
theorem pow63 {n : Nat} (h : n ≤ 63) : 1 ≤ 2 ^ n ∧ 2 ^ n ≤ 9223372036854775808 := by
  have h1 : 2 ^ n ≤ 2 ^ 63 := Nat.pow_le_pow_right (by omega) h
  have h2 : 0 < 2 ^ n := Nat.pow_pos (by omega)
  have h3 : (2 : Nat) ^ 63 = 9223372036854775808 := by decide
  omega
theorem shl_one {n : Nat} (h : n ≤ 63) : IntKind.u64.wrap (1 * 2 ^ (min (n : Int).toNat IntKind.u64.bits)) = ((2 ^ n : Nat) : Int) := by
  have h1 : min (n : Int).toNat IntKind.u64.bits = n := by show min n 64 = n; omega
  rw [h1]
  have h2 := pow63 h
  have h3 : (1 : Int) * 2 ^ n = ((2 ^ n : Nat) : Int) := by simp
  rw [h3]
  exact wrap_u64 (by omega) (by omega)
theorem allM_nat {n : Nat} (h : n ≤ 63) : ((allM n).toNat : Int) = ((2 ^ n - 1 : Nat) : Int) := by
  have h2 := pow63 h
  unfold allM
  rw [BitVec.toNat_ofNat, Nat.mod_eq_of_lt (by omega)]
theorem shl_less {n : Nat} (h : n ≤ 63) : IntKind.u64.wrap (((2 ^ n : Nat) : Int) - 1) = ((allM n).toNat : Int) := by
  have h2 := pow63 h
  rw [allM_nat h, wrap_u64 (by omega) (by omega)]
  omega
theorem bv_zero (a : BitVec 64) : ((a.toNat : Int) = 0) ↔ a = 0 := by
  constructor
  · intro h
    apply BitVec.eq_of_toNat_eq
    simp; omega
  · intro h; subst h; rfl

/-! ### which logs may be -/
def okp : Option En → En → Bool
  | none, _ => true
  | some y, x => decide (ord y x < 0)
def goodP : Option En → List En → Bool
  | _, [] => true
  | p, x :: r => may x && okp p x && goodP (some x) r
def good (l : List En) : Bool := goodP none l
def prevO (l : List En) : Nat → Option En
  | 0 => none
  | i + 1 => l[i]?

theorem drop_at {α : Type} {l : List α} {i : Nat} {x : α} (h : l[i]? = some x) : l.drop i = x :: l.drop (i + 1) := by
  obtain ⟨hl, rfl⟩ := List.getElem?_eq_some_iff.1 h
  exact List.drop_eq_getElem_cons hl
theorem good_step {l : List En} {i : Nat} {x : En} (h : l[i]? = some x) : goodP (prevO l i) (l.drop i) = (may x && okp (prevO l i) x && goodP (prevO l (i + 1)) (l.drop (i + 1))) := by
  rw [drop_at h]; simp [goodP, prevO, h]
theorem prevO_pos {l : List En} {i : Nat} (hi : i > 0) {y : En} (h : l[i - 1]? = some y) : prevO l i = some y := by
  cases i with
  | zero => omega
  | succ i => simpa [prevO] using h
theorem prevO_zero {l : List En} {i : Nat} (hi : ¬ i > 0) : prevO l i = none := by
  have : i = 0 := by omega
  subst this; rfl
theorem good_end {l : List En} {i : Nat} {p : Option En} (h : ¬ i < l.length) : goodP p (l.drop i) = true := by
  rw [List.drop_eq_nil_of_le (by omega)]; rfl


/-! ### less, but, purge -/
def lessE (to : BitVec 64) (x : En) : En := { x with t := x.t &&& ~~~ to }
def lessT (l : List En) (to : BitVec 64) : List En := if good l then l.map (lessE to) else l
def ofS (s : BitVec 64) (d : Int) : BitVec 64 := if 0 ≤ d ∧ d < 64 then s ||| BitVec.ofNat 64 (2 ^ d.toNat) else s
def ofL (l : List Int) : BitVec 64 := l.foldl ofS 0
def hasS (s : BitVec 64) (d : Int) : Bool := decide (d ≥ 0) && decide (d < 64) && s.getLsbD d.toNat
def butT (l : List En) (to : BitVec 64) (d : Int) : List En := lessT l (to &&& ~~~ ofL [d])
def lastOf (x : En) : List En → Bool
  | [] => true
  | y :: _ => decide (y.f ≠ x.f)
def purgeL : List En → List En
  | [] => []
  | x :: r => if (decide (x.t ≠ 0) || lastOf x r) = true then x :: purgeL r else purgeL r
def purgeT (l : List En) : List En := if good l then purgeL l else l

theorem en_ne (x y : En) : (!decide ([x.f, (x.n.toNat : Int), (x.t.toNat : Int)] = [y.f, (y.n.toNat : Int), (y.t.toNat : Int)])) = decide (¬ x = y) := by
  rw [← decide_not]
  refine decide_eq_decide.2 (not_congr ?_)
  cases x; cases y
  simp only [List.cons.injEq, Int.natCast_inj, and_true, En.mk.injEq, BitVec.toNat_inj]
theorem take_step {α : Type} {a b : List α} {i : Nat} {x y : α} (hx : a[i]? = some x) (hy : b[i]? = some y) (h : a.take i = b.take i) (e : x = y) : a.take (i + 1) = b.take (i + 1) := by
  rw [List.take_add_one, List.take_add_one, hx, hy, h, e]
theorem take_all {α : Type} {a b : List α} {i : Nat} (hl : a.length = b.length) (hi : ¬ i < a.length) (h : a.take i = b.take i) : a = b := by
  rwa [List.take_of_length_le (by omega), List.take_of_length_le (by omega)] at h
theorem ne_at {α : Type} {a b : List α} {i : Nat} {x y : α} (hx : a[i]? = some x) (hy : b[i]? = some y) (e : ¬ x = y) : a ≠ b := by
  rintro rfl; rw [hx] at hy; cases hy; exact e rfl

theorem purge_yes {l : List En} {i : Nat} {x : En} (hx : l[i]? = some x) (h : x.t ≠ 0 ∨ i + 1 = l.length ∨ ∃ y, l[i + 1]? = some y ∧ y.f ≠ x.f) : purgeL (l.drop i) = x :: purgeL (l.drop (i + 1)) := by
  rw [drop_at hx, purgeL, if_pos]
  rcases h with h | h | ⟨y, hy, h⟩
  · simp only [decide_eq_true h, Bool.true_or]
  · rw [List.drop_eq_nil_of_le (by omega)]; simp [lastOf]
  · rw [drop_at hy]; simp [lastOf, h]
theorem purge_no {l : List En} {i : Nat} {x y : En} (hx : l[i]? = some x) (h1 : ¬ x.t ≠ 0) (hy : l[i + 1]? = some y) (h : ¬ y.f ≠ x.f) : purgeL (l.drop i) = purgeL (l.drop (i + 1)) := by
  rw [drop_at hx, purgeL, if_neg]
  rw [drop_at hy]; simp_all [lastOf]
theorem purge_end {l : List En} {i : Nat} (h : ¬ i < l.length) : purgeL (l.drop i) = [] := by rw [List.drop_eq_nil_of_le (by omega)]; rfl

def mid {α : Type} (f : α → α) (l : List α) (i : Nat) : List α := (l.take i).map f ++ l.drop i
theorem mid_zero {α : Type} (f : α → α) (l : List α) : mid f l 0 = l := by simp [mid]
theorem mid_all {α : Type} (f : α → α) (l : List α) {i : Nat} (h : ¬ i < l.length) : mid f l i = l.map f := by
  simp [mid, List.take_of_length_le (show l.length ≤ i by omega), List.drop_eq_nil_of_le (show l.length ≤ i by omega)]
theorem mid_len {α : Type} (f : α → α) (l : List α) (i : Nat) : (mid f l i).length = l.length := by simp [mid]; omega
theorem mid_at {α : Type} (f : α → α) {l : List α} {i : Nat} {x : α} (h : l[i]? = some x) : (mid f l i)[i]? = some x := by
  obtain ⟨hl, rfl⟩ := List.getElem?_eq_some_iff.1 h
  rw [mid, List.getElem?_append_right (by simp; omega)]
  simp [Nat.min_eq_left (Nat.le_of_lt hl)]
theorem mid_set {α : Type} (f : α → α) {l : List α} {i : Nat} {x : α} (h : l[i]? = some x) : (mid f l i).set i (f x) = mid f l (i + 1) := by
  obtain ⟨hl, rfl⟩ := List.getElem?_eq_some_iff.1 h
  have hlen : ((l.take i).map f).length = i := by simp; omega
  have hd := List.drop_eq_getElem_cons hl
  unfold mid
  rw [hd, List.set_append_right _ _ (by omega), hlen, Nat.sub_self, List.take_succ_eq_append_getElem hl, List.map_append, List.append_assoc]
  rfl

theorem lessT_len (l : List En) (to : BitVec 64) : (lessT l to).length = l.length := by unfold lessT; split <;> simp

theorem shl_n {d : Int} (h0 : 0 ≤ d) (h : d < 64) : IntKind.u64.wrap (1 * 2 ^ (min d.toNat IntKind.u64.bits)) = ((BitVec.ofNat 64 (2 ^ d.toNat)).toNat : Int) := by
  obtain ⟨n, rfl⟩ := Int.eq_ofNat_of_zero_le h0
  rw [shl_one (by omega)]
  have := pow63 (n := n) (by omega)
  rw [BitVec.toNat_ofNat, Int.toNat_natCast, Nat.mod_eq_of_lt (by omega)]
theorem has_bit {s : BitVec 64} {d : Int} (h0 : 0 ≤ d) (h : d < 64) : decide (((BitVec.ofNat 64 (s.toNat / 2 ^ d.toNat) &&& 1).toNat : Int) = 1) = hasS s d := by
  simp only [hasS, h0, h, decide_true, Bool.true_and]
  rw [BitVec.getLsbD, Nat.testBit_eq_decide_div_mod_eq]
  have e : (BitVec.ofNat 64 (s.toNat / 2 ^ d.toNat) &&& 1).toNat = s.toNat / 2 ^ d.toNat % 2 := by
    have h1 : s.toNat / 2 ^ d.toNat < 2 ^ 64 := Nat.lt_of_le_of_lt (Nat.div_le_self _ _) s.isLt
    rw [BitVec.toNat_and, BitVec.toNat_ofNat, Nat.mod_eq_of_lt h1]
    show _ &&& 1 = _
    rw [Nat.and_one_is_mod]
  rw [e]
  exact decide_eq_decide.2 (by omega)
theorem shr_bits {s : BitVec 64} {d : Int} (h0 : 0 ≤ d) (h : d < 64) : (s.toNat : Int).fdiv (2 ^ (min d.toNat IntKind.u64.bits)) = ((BitVec.ofNat 64 (s.toNat / 2 ^ d.toNat)).toNat : Int) := by
  obtain ⟨n, rfl⟩ := Int.eq_ofNat_of_zero_le h0
  have h1 : min (n : Int).toNat IntKind.u64.bits = n := by show min n 64 = n; omega
  have h2 : s.toNat / 2 ^ n < 2 ^ 64 := Nat.lt_of_le_of_lt (Nat.div_le_self _ _) s.isLt
  rw [h1, BitVec.toNat_ofNat, Int.toNat_natCast, Nat.mod_eq_of_lt h2]
  have h3 : (2 : Int) ^ n = ((2 ^ n : Nat) : Int) := by simp
  rw [h3, Int.fdiv_eq_ediv_of_nonneg _ (Int.natCast_nonneg _)]
  rfl


/-! ### order, and the place of an entry -/
theorem ord_lt {a b : En} : ord a b < 0 ↔ a.f < b.f ∨ (a.f = b.f ∧ a.n.toNat < b.n.toNat) := by
  simp only [ord, orL, cmpI]
  repeat' split
  all_goals (first | omega | simp_all <;> omega)
theorem ord_zero {a b : En} : ord a b = 0 ↔ a.f = b.f ∧ a.n = b.n := by
  rw [← BitVec.toNat_inj]
  simp only [ord, orL, cmpI]
  repeat' split
  all_goals (first | omega | simp_all <;> omega)
theorem ord_trans {a b c : En} (h1 : ord a b < 0) (h2 : ord b c < 0) : ord a c < 0 := by
  rw [ord_lt] at *; omega
theorem ord_ge_trans {a b c : En} (h1 : ord a b < 0) (h2 : ord a c ≥ 0) : ord b c ≥ 0 := by
  have h3 : ¬ ord a c < 0 := by omega
  have h4 : ¬ ord b c < 0 := by rw [ord_lt] at *; omega
  omega

/-- rising -/
def Rise : List En → Prop := List.Pairwise fun a b => ord a b < 0
theorem goodP_rise : ∀ {l : List En} {p : Option En}, goodP p l = true → Rise l ∧ (∀ y, p = some y → ∀ x ∈ l, ord y x < 0) ∧ ∀ x ∈ l, may x = true
  | [], p, _ => ⟨List.Pairwise.nil, by simp, by simp⟩
  | x :: r, p, h => by
    simp only [goodP, Bool.and_eq_true] at h
    obtain ⟨⟨h1, h2⟩, h3⟩ := h
    obtain ⟨i1, i2, i3⟩ := goodP_rise h3
    refine ⟨List.pairwise_cons.2 ⟨fun y hy => i2 x rfl y hy, i1⟩, fun y hy z hz => ?_, fun z hz => ?_⟩
    · subst hy
      have h4 : ord y x < 0 := by simpa [okp] using h2
      rcases List.mem_cons.1 hz with rfl | hz
      · exact h4
      · exact ord_trans h4 (i2 x rfl z hz)
    · rcases List.mem_cons.1 hz with rfl | hz
      · exact h1
      · exact i3 z hz
theorem good_rise {l : List En} (h : good l = true) : Rise l := (goodP_rise h).1
theorem good_may {l : List En} (h : good l = true) : ∀ x ∈ l, may x = true := (goodP_rise h).2.2
theorem goodP_of : ∀ {l : List En} {p : Option En}, Rise l → (∀ y, p = some y → ∀ x ∈ l, ord y x < 0) → (∀ x ∈ l, may x = true) → goodP p l = true
  | [], _, _, _, _ => rfl
  | x :: r, p, h1, h2, h3 => by
    obtain ⟨h4, h5⟩ := List.pairwise_cons.1 h1
    simp only [goodP, Bool.and_eq_true]
    refine ⟨⟨h3 x (by simp), ?_⟩, goodP_of h5 (fun y hy z hz => by cases hy; exact h4 z hz) fun z hz => h3 z (List.mem_cons_of_mem _ hz)⟩
    cases p with
    | none => rfl
    | some y => simpa [okp] using h2 y rfl x (by simp)
theorem good_iff {l : List En} : good l = true ↔ Rise l ∧ ∀ x ∈ l, may x = true :=
  ⟨fun h => ⟨good_rise h, good_may h⟩, fun h => goodP_of h.1 (by simp) h.2⟩

def pos (l : List En) (x : En) : Nat := (l.takeWhile fun e => decide (ord e x < 0)).length
def there (l : List En) (x : En) : Bool := match l[pos l x]? with
  | some e => decide (ord e x = 0)
  | none => false
theorem pos_eq : ∀ {l : List En} {x : En} {i : Nat}, (∀ k y, k < i → l[k]? = some y → ord y x < 0) → (∀ k y, i ≤ k → l[k]? = some y → ord y x ≥ 0) → i ≤ l.length → pos l x = i
  | [], x, i, _, _, h => by have : i = 0 := by simpa using h
                            subst this; rfl
  | y :: r, x, 0, _, h2, _ => by
    have := h2 0 y (Nat.le_refl _) rfl
    have h3 : ¬ ord y x < 0 := by omega
    simp [pos, List.takeWhile, h3]
  | y :: r, x, i + 1, h1, h2, h3 => by
    have h0 := h1 0 y (by omega) rfl
    have ih := pos_eq (l := r) (x := x) (i := i) (fun k z hk hz => h1 (k + 1) z (by omega) (by simpa using hz)) (fun k z hk hz => h2 (k + 1) z (by omega) (by simpa using hz)) (by simpa using h3)
    simp only [pos, List.takeWhile, h0, decide_true, List.length_cons]
    rw [← ih]; rfl
theorem rise_lt {l : List En} (h : Rise l) {i j : Nat} {x y : En} (hij : i < j) (hx : l[i]? = some x) (hy : l[j]? = some y) : ord x y < 0 := by
  obtain ⟨h1, rfl⟩ := List.getElem?_eq_some_iff.1 hx
  obtain ⟨h2, rfl⟩ := List.getElem?_eq_some_iff.1 hy
  exact List.pairwise_iff_getElem.1 h i j h1 h2 hij
theorem upto_low {l : List En} (hr : Rise l) {x y : En} {h : Nat} (hy : l[h]? = some y) (ho : ord y x < 0) : ∀ k z, k < h + 1 → l[k]? = some z → ord z x < 0 := by
  intro k z hk hz
  rcases Nat.lt_or_ge k h with h1 | h1
  · exact ord_trans (rise_lt hr h1 hz hy) ho
  · have : k = h := by omega
    subst this; rw [hy] at hz; cases hz; exact ho
theorem from_high {l : List En} (hr : Rise l) {x y : En} {h : Nat} (hy : l[h]? = some y) (ho : ¬ ord y x < 0) : ∀ k z, h ≤ k → l[k]? = some z → ord z x ≥ 0 := by
  intro k z hk hz
  rcases Nat.lt_or_ge h k with h1 | h1
  · exact ord_ge_trans (rise_lt hr h1 hy hz) (by omega)
  · have : k = h := by omega
    subst this; rw [hy] at hz; cases hz; omega
theorem shr_half (n : Nat) : (n : Int).fdiv (2 ^ (min (1 : Int).toNat IntKind.u64.bits)) = ((n / 2 : Nat) : Int) := by
  show (n : Int).fdiv (2 ^ 1) = _
  rw [Int.fdiv_eq_ediv_of_nonneg _ (by omega)]; omega


/-! ### the greatest number of each that sent; what another has not -/
def lastN (l : List En) (n : Int) : Option (BitVec 64) := l.foldl (fun a x => if n = x.f then some x.n else a) none
def encU (x : BitVec 64) : Value := .int .u64 (x.toNat : Int)
def lastF (l : List En) (n : Int) : Option Value := (lastN l n).map encU
theorem lastF_step {l : List En} {i : Nat} {x : En} (hx : l[i]? = some x) (n : Int) : updI (lastF (l.take i)) x.f (.int .u64 (x.n.toNat : Int)) n = lastF (l.take (i + 1)) n := by
  rw [List.take_add_one, hx]
  simp only [lastF, lastN, Option.toList, List.foldl_append, List.foldl_cons, List.foldl_nil, updI]
  split <;> rfl
def isNew (other : List En) (x : En) : Bool := !there other x && decide (((lastN other x.f).getD 0).toNat < x.n.toNat)
def newsL (own other : List En) : List En := own.filter (isNew other)
theorem lastF_get (l : List En) (n : Int) : (lastF l n).getD (.int .u64 0) = .int .u64 (((lastN l n).getD 0).toNat : Int) := by
  unfold lastF; cases lastN l n <;> rfl
theorem filt_len (p : En → Bool) (l : List En) (i : Nat) : ((l.take i).filter p).length ≤ l.length := Nat.le_trans (List.length_filter_le _ _) (by rw [List.length_take]; omega)
theorem take_filter {l : List En} {i : Nat} {x : En} (p : En → Bool) (hx : l[i]? = some x) : (l.take (i + 1)).filter p = (l.take i).filter p ++ (if p x then [x] else []) := by
  rw [List.take_add_one, hx, List.filter_append]; simp [List.filter]; split <;> simp_all

end Go.Shoal
