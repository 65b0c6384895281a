import Derived.Test.YtpnoddfjklcahaaDa1
set_option linter.all false
namespace Go.Shoal
open Go Go.Lv

/-! ### numbers in few bytes -/
def lebF : Nat → Nat → List UInt8
  | 0, n => [UInt8.ofNat n]
  | k + 1, n => if n < 128 then [UInt8.ofNat n] else UInt8.ofNat (n % 128 + 128) :: lebF k (n / 128)
def lebL (n : Nat) : List UInt8 := lebF 9 n

/-- what is read: the number, and how many bytes -/
def dec : List UInt8 → Nat → Nat → Option (Nat × Nat)
  | [], _, _ => none
  | c :: r, i, n =>
    if c.toNat < 128 then (if (c.toNat = 0 ∧ 0 < i) ∨ (i = 9 ∧ 1 < c.toNat) ∨ 9 < i then none else some (n + c.toNat * 128 ^ i, i + 1))
    else if 9 ≤ i then none else dec r (i + 1) (n + (c.toNat - 128) * 128 ^ i)
def getL (l : List UInt8) : Option (Nat × Nat) := dec l 0 0
def getN (l : List UInt8) : Nat := ((getL l).map (·.1)).getD 0
def getK (l : List UInt8) : Nat := ((getL l).map (·.2)).getD 0

theorem pow128 (i : Nat) : (2 : Nat) ^ (7 * i) = 128 ^ i := by rw [Nat.pow_mul]
theorem pow_pos128 (i : Nat) : 0 < 128 ^ i := Nat.pow_pos (by omega)
theorem pow_succ128 (i : Nat) : 128 ^ (i + 1) = 128 * 128 ^ i := by rw [Nat.pow_succ, Nat.mul_comm]
theorem pow_le128 {i j : Nat} (h : i ≤ j) : 128 ^ i ≤ 128 ^ j := Nat.pow_le_pow_right (by omega) h
theorem pow9 : (128 : Nat) ^ 9 = 9223372036854775808 := by decide
theorem u8_lt (c : UInt8) : c.toNat < 256 := c.toNat_lt

/-! bits -/
theorem bits_u64 : IntKind.u64.bits = 64 := rfl
theorem ofInt_nat64 (a : Nat) : BitVec.ofInt 64 (a : Int) = BitVec.ofNat 64 a := by
  apply BitVec.eq_of_toNat_eq; simp
theorem or_nat {a b : Nat} (ha : a < 18446744073709551616) (hb : b < 18446744073709551616) : IntKind.u64.wrap ((BitVec.ofInt IntKind.u64.bits (a : Int) ||| BitVec.ofInt IntKind.u64.bits (b : Int)).toNat : Int) = ((a ||| b : Nat) : Int) := by
  rw [bits_u64, ofInt_nat64, ofInt_nat64, u64_wrap_bv, BitVec.toNat_or, BitVec.toNat_ofNat, BitVec.toNat_ofNat, Nat.mod_eq_of_lt (by omega), Nat.mod_eq_of_lt (by omega)]
theorem or_lt64 {a b : Nat} (ha : a < 18446744073709551616) (hb : b < 18446744073709551616) : a ||| b < 18446744073709551616 := by
  have := Nat.or_lt_two_pow (n := 64) (x := a) (y := b) (by omega) (by omega)
  omega
theorem wrap_u64_nat (x : Nat) : IntKind.u64.wrap (x : Int) = ((x % 18446744073709551616 : Nat) : Int) := by
  unfold IntKind.wrap; simp [IntKind.bits, IntKind.signed]
theorem shl_nat {x i : Nat} (hi : i ≤ 9) {s : Int} (hs : s = 7 * (i : Int)) : IntKind.u64.wrap ((x : Int) * 2 ^ (min s.toNat IntKind.u64.bits)) = ((x * 128 ^ i % 18446744073709551616 : Nat) : Int) := by
  subst hs
  have h1 : min (7 * (i : Int)).toNat IntKind.u64.bits = 7 * i := by rw [bits_u64]; omega
  have h2 : (x : Int) * 2 ^ (7 * i) = ((x * 128 ^ i : Nat) : Int) := by rw [← pow128]; simp
  rw [h1, h2, wrap_u64_nat]
theorem u8_and127 (c : UInt8) : IntKind.u8.wrap ((BitVec.ofInt IntKind.u8.bits (c.toNat : Int) &&& BitVec.ofInt IntKind.u8.bits 127).toNat : Int) = ((c.toNat % 128 : Nat) : Int) := by
  have h : ∀ a : Fin 256, IntKind.u8.wrap ((BitVec.ofInt IntKind.u8.bits (a.val : Int) &&& BitVec.ofInt IntKind.u8.bits 127).toNat : Int) = ((a.val % 128 : Nat) : Int) := by decide +kernel
  exact h ⟨c.toNat, u8_lt c⟩
theorem u8_conv (m : Nat) : IntKind.u8.wrap (m : Int) = ((UInt8.ofNat m).toNat : Int) := by
  unfold IntKind.wrap; simp [IntKind.bits, IntKind.signed]
theorem u8_or128 (m : Nat) : IntKind.u8.wrap ((BitVec.ofInt IntKind.u8.bits ((UInt8.ofNat m).toNat : Int) ||| BitVec.ofInt IntKind.u8.bits 128).toNat : Int) = ((UInt8.ofNat (m % 128 + 128)).toNat : Int) := by
  have h : ∀ a : Fin 256, IntKind.u8.wrap ((BitVec.ofInt IntKind.u8.bits (a.val : Int) ||| BitVec.ofInt IntKind.u8.bits 128).toNat : Int) = ((a.val % 128 + 128 : Nat) : Int) := by decide +kernel
  have h1 : (UInt8.ofNat m).toNat = m % 256 := by simp
  have h2 : (UInt8.ofNat (m % 128 + 128)).toNat = m % 256 % 128 + 128 := by simp; omega
  rw [h2, h1]
  exact h ⟨m % 256, by omega⟩
theorem u8_add128 (m : Nat) : IntKind.u8.wrap (((UInt8.ofNat (m % 128)).toNat : Int) + 128) = ((UInt8.ofNat (m % 128 + 128)).toNat : Int) := by
  have h1 : (UInt8.ofNat (m % 128)).toNat = m % 128 := by simp; omega
  have h2 : (UInt8.ofNat (m % 128 + 128)).toNat = m % 128 + 128 := by simp; omega
  rw [h1, h2, wrap_u8 (by omega) (by omega)]; omega
theorem rem128 (m : Nat) : (m : Int).tmod 128 = ((m % 128 : Nat) : Int) := by rw [Int.tmod_eq_emod_of_nonneg (by omega)]; omega
theorem quo128 {m : Nat} (h : m < 18446744073709551616) : IntKind.u64.wrap ((m : Int).tdiv 128) = ((m / 128 : Nat) : Int) := by
  rw [Int.tdiv_eq_ediv_of_nonneg (by omega), wrap_u64 (by omega) (by omega)]; omega
theorem shr7 (m : Nat) : (m : Int).fdiv (2 ^ (min (7 : Int).toNat IntKind.u64.bits)) = ((m / 128 : Nat) : Int) := by
  show (m : Int).fdiv (2 ^ 7) = _
  rw [Int.fdiv_eq_ediv_of_nonneg _ (by omega)]; omega

/-! one more group -/
theorem or_add {n x i : Nat} (hn : n < 128 ^ i) (hx : n + x * 128 ^ i < 18446744073709551616) : n ||| (x * 128 ^ i % 18446744073709551616) = n + x * 128 ^ i := by
  rw [Nat.mod_eq_of_lt (by omega)]
  have := Nat.two_pow_add_eq_or_of_lt (i := 7 * i) (b := n) (by rw [pow128]; exact hn) x
  rw [pow128, Nat.mul_comm] at this
  rw [Nat.or_comm, ← this, Nat.add_comm]

def Rl (l : List UInt8) (i n : Nat) : Prop := i ≤ l.length ∧ i ≤ 10 ∧ n < 18446744073709551616 ∧ (i ≤ 9 → n < 128 ^ i ∧ dec (l.drop i) i n = getL l) ∧ (i = 10 → getL l = none)
theorem Rl.zero (l : List UInt8) : Rl l 0 0 := ⟨Nat.zero_le _, by omega, by omega, fun _ => ⟨by decide, rfl⟩, by omega⟩
theorem Rl.out {l : List UInt8} {i n : Nat} (h : Rl l i n) (hi : ¬ i < l.length ∨ 10 ≤ i) : getL l = none := by
  obtain ⟨h1, h2, _, h3, h4⟩ := h
  by_cases h5 : i = 10
  · exact h4 h5
  · have h6 := (h3 (by omega)).2
    rw [List.drop_eq_nil_of_le (by omega)] at h6
    exact h6.symm
theorem dec_cons (c : UInt8) (r : List UInt8) (i n : Nat) : dec (c :: r) i n = if c.toNat < 128 then (if (c.toNat = 0 ∧ 0 < i) ∨ (i = 9 ∧ 1 < c.toNat) ∨ 9 < i then none else some (n + c.toNat * 128 ^ i, i + 1))
    else if 9 ≤ i then none else dec r (i + 1) (n + (c.toNat - 128) * 128 ^ i) := rfl
theorem Rl.at {l : List UInt8} {i n : Nat} {c : UInt8} (h : Rl l i n) (hi : i ≤ 9) (hc : l[i]? = some c) : n < 128 ^ i ∧ getL l = if c.toNat < 128 then (if (c.toNat = 0 ∧ 0 < i) ∨ (i = 9 ∧ 1 < c.toNat) ∨ 9 < i then none else some (n + c.toNat * 128 ^ i, i + 1))
    else if 9 ≤ i then none else dec (l.drop (i + 1)) (i + 1) (n + (c.toNat - 128) * 128 ^ i) := by
  obtain ⟨h1, h2⟩ := h.2.2.2.1 hi
  refine ⟨h1, ?_⟩
  rw [← h2, drop_at hc, dec_cons]
theorem grp_lt {n x i : Nat} (hi : i ≤ 9) (hn : n < 128 ^ i) (hx : x < 128) (h9 : i = 9 → x ≤ 1) : n + x * 128 ^ i < 18446744073709551616 := by
  by_cases h : i = 9
  · subst h
    have := h9 rfl
    rw [pow9] at *
    omega
  · have h1 : (x + 1) * 128 ^ i ≤ 128 * 128 ^ i := Nat.mul_le_mul_right _ (by omega)
    rw [Nat.add_mul, Nat.one_mul, ← pow_succ128] at h1
    have h2 := pow_le128 (show i + 1 ≤ 9 by omega)
    rw [pow9] at h2
    omega
theorem Rl.bad {l : List UInt8} {i n : Nat} {c : UInt8} (h : Rl l i n) (hi : i ≤ 9) (hc : l[i]? = some c) (hb : (c.toNat < 128 ∧ c.toNat = 0 ∧ 0 < i) ∨ (i = 9 ∧ 1 < c.toNat)) : getL l = none := by
  rw [(h.at hi hc).2]
  rcases hb with ⟨h1, h2⟩ | h2
  · rw [if_pos h1, if_pos (.inl h2)]
  · by_cases h1 : c.toNat < 128
    · rw [if_pos h1, if_pos (.inr (.inl h2))]
    · rw [if_neg h1, if_pos (by omega)]
theorem Rl.good {l : List UInt8} {i n : Nat} {c : UInt8} (h : Rl l i n) (hi : i ≤ 9) (hc : l[i]? = some c) (h1 : c.toNat < 128) (h2 : ¬ (c.toNat = 0 ∧ 0 < i)) (h3 : ¬ (i = 9 ∧ 1 < c.toNat)) :
    n ||| (c.toNat % 128 * 128 ^ i % 18446744073709551616) = n + c.toNat * 128 ^ i ∧ getL l = some (n ||| (c.toNat % 128 * 128 ^ i % 18446744073709551616), i + 1) := by
  obtain ⟨h4, h5⟩ := h.at hi hc
  have h6 : c.toNat % 128 = c.toNat := Nat.mod_eq_of_lt h1
  have h7 := or_add h4 (grp_lt hi h4 h1 (by omega))
  rw [h6, h7]
  refine ⟨rfl, ?_⟩
  rw [h5, if_pos h1, if_neg (by omega)]
theorem Rl.next {l : List UInt8} {i n : Nat} {c : UInt8} (h : Rl l i n) (hi : i ≤ 9) (hc : l[i]? = some c) (h1 : ¬ c.toNat < 128) : Rl l (i + 1) (n ||| (c.toNat % 128 * 128 ^ i % 18446744073709551616)) := by
  obtain ⟨h4, h5⟩ := h.at hi hc
  have hlt : i < l.length := (List.getElem?_eq_some_iff.1 hc).1
  have hc2 := u8_lt c
  refine ⟨hlt, by omega, or_lt64 h.2.2.1 (by omega), fun h9 => ?_, fun h9 => ?_⟩
  · have h6 : c.toNat % 128 = c.toNat - 128 := by omega
    have h7 := or_add h4 (grp_lt hi h4 (show c.toNat - 128 < 128 by omega) (by omega))
    rw [h6, h7]
    constructor
    · have h8 : (c.toNat - 128 + 1) * 128 ^ i ≤ 128 * 128 ^ i := Nat.mul_le_mul_right _ (by omega)
      rw [Nat.add_mul, Nat.one_mul, ← pow_succ128] at h8
      omega
    · rw [h5, if_neg h1, if_neg (by omega)]
  · rw [h5, if_neg h1, if_pos (by omega)]

/-! how many bytes -/
theorem lebF_len : ∀ (k n j : Nat), n < 128 ^ (k + 1) → j ≤ k → ((lebF k n).length = j + 1 ↔ n < 128 ^ (j + 1) ∧ (j = 0 ∨ 128 ^ j ≤ n))
  | 0, n, j, h, hj => by
    have : j = 0 := by omega
    subst this
    simp only [lebF, List.length_singleton, Nat.zero_add, true_or, and_true, true_iff]; exact h
  | k + 1, n, j, h, hj => by
    unfold lebF
    split
    · rename_i hn
      cases j with
      | zero => simp; exact hn
      | succ j =>
        simp only [List.length_singleton]
        have : ¬ 128 ^ (j + 1) ≤ n := by
          have := pow_le128 (show 1 ≤ j + 1 by omega)
          omega
        constructor
        · omega
        · rintro ⟨_, h2⟩; omega
    · rename_i hn
      have hd : n / 128 < 128 ^ (k + 1) := by
        rw [pow_succ128] at h
        exact Nat.div_lt_of_lt_mul h
      cases j with
      | zero =>
        simp only [List.length_cons, Nat.zero_add, Nat.pow_one, true_or, and_true]
        have : (lebF k (n / 128)).length ≠ 0 := by cases k <;> simp [lebF] <;> split <;> simp
        constructor
        · omega
        · omega
      | succ j =>
        have ih := lebF_len k (n / 128) j hd (by omega)
        simp only [List.length_cons, Nat.add_right_cancel_iff]
        rw [ih]
        have e1 : 128 ^ (j + 1 + 1) = 128 * 128 ^ (j + 1) := pow_succ128 _
        have e2 : 128 ^ (j + 1) = 128 * 128 ^ j := pow_succ128 _
        have hp := pow_pos128 j
        constructor
        · rintro ⟨h1, h2⟩
          refine ⟨by omega, .inr ?_⟩
          rcases h2 with h2 | h2
          · subst h2; simp; omega
          · omega
        · rintro ⟨h1, h2⟩
          refine ⟨by omega, ?_⟩
          rcases h2 with h2 | h2
          · omega
          · right; omega
theorem pow10 : 18446744073709551616 ≤ 128 ^ 10 := by decide
theorem lebL_len {n j : Nat} (h : n < 18446744073709551616) (hj : j ≤ 9) : (lebL n).length = j + 1 ↔ n < 128 ^ (j + 1) ∧ (j = 0 ∨ 128 ^ j ≤ n) :=
  lebF_len 9 n j (Nat.lt_of_lt_of_le h pow10) hj
theorem size_grp {n i : Nat} {c : UInt8} (hi : i ≤ 9) (hn : n < 128 ^ i) (h1 : c.toNat < 128) (h9 : i = 9 → c.toNat ≤ 1) : (lebL (n + c.toNat * 128 ^ i)).length = i + 1 ↔ ¬ (c.toNat = 0 ∧ 0 < i) := by
  have h2 := grp_lt hi hn h1 h9
  rw [lebL_len h2 hi]
  have h8 : (c.toNat + 1) * 128 ^ i ≤ 128 * 128 ^ i := Nat.mul_le_mul_right _ (by omega)
  rw [Nat.add_mul, Nat.one_mul, ← pow_succ128] at h8
  constructor
  · rintro ⟨_, h⟩ ⟨h3, h4⟩
    rw [h3] at h; simp at h; omega
  · intro h
    refine ⟨by omega, ?_⟩
    by_cases h3 : i = 0
    · exact .inl h3
    · right
      have h4 : 1 ≤ c.toNat := by omega
      have : 1 * 128 ^ i ≤ c.toNat * 128 ^ i := Nat.mul_le_mul_right _ h4
      omega
theorem lebF_pos (k n : Nat) : 0 < (lebF k n).length := by cases k <;> simp [lebF] <;> split <;> simp
theorem lebF_le : ∀ k n : Nat, (lebF k n).length ≤ k + 1
  | 0, n => by simp [lebF]
  | k + 1, n => by
    unfold lebF; split
    · simp
    · have := lebF_le k (n / 128)
      simp only [List.length_cons]; omega
theorem lebL_le (n : Nat) : (lebL n).length ≤ 10 := lebF_le 9 n
theorem lebF_small {k n : Nat} (h : n < 128) : lebF k n = [UInt8.ofNat n] := by cases k <;> simp [lebF, h]
theorem lebF_more {k n : Nat} (h : ¬ n < 128) (hk : n < 128 ^ (k + 1)) : ∃ j, k = j + 1 ∧ lebF k n = UInt8.ofNat (n % 128 + 128) :: lebF j (n / 128) ∧ n / 128 < 128 ^ (j + 1) := by
  cases k with
  | zero => exact absurd (by simpa using hk) h
  | succ j => exact ⟨j, rfl, by simp [lebF, h], by rw [pow_succ128] at hk; exact Nat.div_lt_of_lt_mul hk⟩

/-! reading: bounds, and what was written is read -/
theorem dec_bound : ∀ (l : List UInt8) (i n : Nat) {m k : Nat}, dec l i n = some (m, k) → i < k ∧ k ≤ i + l.length
  | [], _, _, _, _, h => by simp [dec] at h
  | c :: r, i, n, m, k, h => by
    rw [dec_cons] at h
    split at h
    · split at h
      · cases h
      · simp only [Option.some.injEq, Prod.mk.injEq] at h
        simp only [List.length_cons]; omega
    · split at h
      · cases h
      · have := dec_bound r (i + 1) _ h
        simp only [List.length_cons]; omega
theorem dec_lt : ∀ (l : List UInt8) (i n : Nat) {m k : Nat}, i ≤ 9 → n < 128 ^ i → dec l i n = some (m, k) → m < 18446744073709551616
  | [], _, _, _, _, _, _, h => by simp [dec] at h
  | c :: r, i, n, m, k, hi, hn, h => by
    have hc := u8_lt c
    rw [dec_cons] at h
    split at h
    · rename_i h1
      split at h
      · cases h
      · simp only [Option.some.injEq, Prod.mk.injEq] at h
        have := grp_lt hi hn h1 (by omega)
        omega
    · split at h
      · cases h
      · refine dec_lt r (i + 1) _ (by omega) ?_ h
        have h8 : (c.toNat - 128 + 1) * 128 ^ i ≤ 128 * 128 ^ i := Nat.mul_le_mul_right _ (by omega)
        rw [Nat.add_mul, Nat.one_mul, ← pow_succ128] at h8
        omega
theorem getN_lt (l : List UInt8) : getN l < 18446744073709551616 := by
  unfold getN
  cases h : getL l with
  | none => simp
  | some p => exact dec_lt l 0 0 (by omega) (by decide) h
theorem getK_le (l : List UInt8) : getK l ≤ l.length := by
  unfold getK
  cases h : getL l with
  | none => simp
  | some p => have := dec_bound l 0 0 h; simp; omega
theorem getK_le10 (l : List UInt8) : getK l ≤ 10 := by
  have key : ∀ (l : List UInt8) (i n : Nat) {m k : Nat}, i ≤ 9 → dec l i n = some (m, k) → k ≤ 10 := by
    intro l
    induction l with
    | nil => intro i n m k _ h; simp [dec] at h
    | cons c r ih =>
      intro i n m k hi h
      rw [dec_cons] at h
      split at h
      · split at h
        · cases h
        · simp only [Option.some.injEq, Prod.mk.injEq] at h; omega
      · split at h
        · cases h
        · exact ih (i + 1) _ (by omega) h
  unfold getK
  cases h : getL l with
  | none => simp
  | some p => exact key l 0 0 (by omega) h
theorem getK_zero {l : List UInt8} : getK l = 0 ↔ getL l = none := by
  unfold getK
  cases h : getL l with
  | none => simp
  | some p =>
    have := dec_bound l 0 0 h
    simp; omega
theorem getL_some {l : List UInt8} {m k : Nat} (h : getL l = some (m, k)) : getN l = m ∧ getK l = k := by unfold getN getK; rw [h]; exact ⟨rfl, rfl⟩
theorem getL_none {l : List UInt8} (h : getL l = none) : getN l = 0 ∧ getK l = 0 := by unfold getN getK; rw [h]; exact ⟨rfl, rfl⟩
theorem dec_lebF : ∀ (k m i n : Nat) (rest : List UInt8), m < 128 ^ (k + 1) → i + k ≤ 9 → (i + k = 9 → m * 128 ^ i < 18446744073709551616) → (m = 0 → i = 0) → dec (lebF k m ++ rest) i n = some (n + m * 128 ^ i, i + (lebF k m).length)
  | k, m, i, n, rest, hm, hi, h64, h0 => by
    by_cases h : m < 128
    · rw [lebF_small h]
      have e : (UInt8.ofNat m).toNat = m := by simp; omega
      rw [List.singleton_append, dec_cons, e, if_pos h, if_neg]
      · rfl
      · rintro (⟨h1, h2⟩ | ⟨h1, h2⟩ | h1)
        · have := h0 h1; omega
        · subst h1
          have := h64 (by omega)
          rw [pow9] at this; omega
        · omega
    · obtain ⟨j, rfl, h1, h2⟩ := lebF_more h hm
      rw [h1]
      have e : (UInt8.ofNat (m % 128 + 128)).toNat = m % 128 + 128 := by simp; omega
      rw [List.cons_append, dec_cons, e, if_neg (by omega), if_neg (by omega)]
      have hd : m = 128 * (m / 128) + m % 128 := (Nat.div_add_mod m 128).symm
      have hmul : m * 128 ^ i = (m / 128) * 128 ^ (i + 1) + (m % 128) * 128 ^ i := by
        rw [pow_succ128, ← Nat.mul_assoc, ← Nat.add_mul, Nat.mul_comm (m / 128) 128, ← hd]
      have ih := dec_lebF j (m / 128) (i + 1) (n + (m % 128 + 128 - 128) * 128 ^ i) rest h2 (by omega) (fun h3 => by have := h64 (by omega); omega) (by omega)
      rw [ih, List.length_cons, Nat.add_sub_cancel, hmul]
      congr 2
      · omega
      · omega
theorem getL_lebL {n : Nat} (h : n < 18446744073709551616) (rest : List UInt8) : getL (lebL n ++ rest) = some (n, (lebL n).length) := by
  have := dec_lebF 9 n 0 0 rest (Nat.lt_of_lt_of_le h pow10) (by omega) (fun _ => by simpa using h) (fun _ => rfl)
  simpa [getL, lebL] using this
end Go.Shoal
namespace Go.Shoal
open Go Go.Lv
theorem Rl.size_bad {l : List UInt8} {i n : Nat} {c : UInt8} (h : Rl l i n) (hi : i ≤ 9) (hc : l[i]? = some c) (h1 : c.toNat < 128) (hs : ¬ (lebL (n ||| (c.toNat % 128 * 128 ^ i % 18446744073709551616))).length = i + 1) : getL l = none := by
  by_cases h2 : c.toNat = 0 ∧ 0 < i
  · exact h.bad hi hc (.inl ⟨h1, h2⟩)
  · by_cases h3 : i = 9 ∧ 1 < c.toNat
    · exact h.bad hi hc (.inr h3)
    · have h4 := (h.good hi hc h1 h2 h3).1
      rw [h4] at hs
      exact absurd ((size_grp hi (h.at hi hc).1 h1 (by omega)).2 h2) hs
theorem Rl.size_good {l : List UInt8} {i n : Nat} {c : UInt8} (h : Rl l i n) (hi : i ≤ 9) (hc : l[i]? = some c) (h1 : c.toNat < 128) (hs : (lebL (n ||| (c.toNat % 128 * 128 ^ i % 18446744073709551616))).length = i + 1) (h3 : ¬ (i = 9 ∧ 1 < c.toNat)) :
    getL l = some (n ||| (c.toNat % 128 * 128 ^ i % 18446744073709551616), i + 1) := by
  by_cases h2 : c.toNat = 0 ∧ 0 < i
  · have h5 : n + c.toNat * 128 ^ i = n := by rw [h2.1]; simp
    have h6 : c.toNat % 128 * 128 ^ i % 18446744073709551616 = 0 := by rw [h2.1]; simp
    rw [h6, Nat.or_zero] at hs
    have h7 := size_grp (c := c) hi (h.at hi hc).1 h1 (by omega)
    rw [h5] at h7
    exact absurd h2 (h7.1 hs)
  · exact (h.good hi hc h1 h2 h3).2

/-! a reader: where it stands, or none -/
def rdA (A : Option Addr) (c : Nat) (l : List UInt8) : Option Nat → Value
  | some k => .slice A (l.drop k).length c
  | none => .slice none 0 0
def badO (st : Option Nat) : Bool := match st with | some _ => false | none => true
def rdF (st : Option Nat) : Value := .bool (badO st)
/-- what is yet to be read -/
def rest (l : List UInt8) : Option Nat → List UInt8
  | some k => l.drop k
  | none => []
/-- a slice that reads as what is left, wherever the whole reads as it does -/
def RdP (A : Option Addr) (l : List UInt8) (A' : Option Addr) (c' : Nat) (st : Option Nat) : Prop := (∀ w, Rd encB w A l → Rd encB w A' (rest l st)) ∧ (rest l st).length ≤ c'
def numS (l : List UInt8) (most : Nat) (st : Option Nat) : Option Nat := match st with
  | some k => if getK (l.drop k) = 0 ∨ most < getN (l.drop k) then none else some (k + getK (l.drop k))
  | none => none
def numV (l : List UInt8) (most : Nat) (st : Option Nat) : Nat := match st with
  | some k => if getK (l.drop k) = 0 ∨ most < getN (l.drop k) then 0 else getN (l.drop k)
  | none => 0
def setOk (m : BitVec 64) (n : Nat) : Bool := within (BitVec.ofNat 64 n) m
def setS (l : List UInt8) (m : BitVec 64) (st : Option Nat) : Option Nat := match st with
  | some k => if getK (l.drop k) = 0 ∨ ¬ setOk m (getN (l.drop k)) = true then none else some (k + getK (l.drop k))
  | none => none
def setV (l : List UInt8) (m : BitVec 64) (st : Option Nat) : Nat := match st with
  | some k => if getK (l.drop k) = 0 ∨ ¬ setOk m (getN (l.drop k)) = true then 0 else getN (l.drop k)
  | none => 0
def endO (l : List UInt8) (st : Option Nat) : Bool := match st with | some k => decide ((l.drop k).length = 0) | none => false
theorem RdP.zero {A : Option Addr} {c : Nat} {l : List UInt8} (h : l.length ≤ c) : RdP A l A c (some 0) := ⟨fun _ h => h, h⟩
theorem RdP.none (A : Option Addr) (l : List UInt8) : RdP A l none 0 none := ⟨fun _ _ => Rd.nil _ _ _, Nat.le_refl _⟩
theorem RdP.step {A A' : Option Addr} {l : List UInt8} {c' k j : Nat} (h : RdP A l A' c' (some k)) (hj : j ≤ (l.drop k).length) : RdP A l (if c' = j then A' else A'.map (·.add (j * 1))) (c' - j) (some (k + j)) := by
  obtain ⟨h1, h2⟩ := h
  have h2' : (l.drop k).length ≤ c' := h2
  have hd : l.drop (k + j) = (l.drop k).drop j := (List.drop_drop ..).symm
  refine ⟨fun w hw => ?_, ?_⟩
  · have h3 : Rd encB w A' (l.drop k) := h1 w hw
    show Rd encB w _ (l.drop (k + j))
    rw [hd]
    by_cases e : c' = j
    · rw [if_pos e, List.drop_eq_nil_of_le (by omega)]; exact Rd.nil _ _ _
    · rw [if_neg e]; exact h3.drop j
  · show (l.drop (k + j)).length ≤ c' - j
    rw [hd, List.length_drop]; omega
theorem numS_bad {l : List UInt8} {most k : Nat} (h : getK (l.drop k) = 0 ∨ most < getN (l.drop k)) : numS l most (some k) = none ∧ numV l most (some k) = 0 := ⟨if_pos h, if_pos h⟩
theorem numS_good {l : List UInt8} {most k : Nat} (h : ¬ (getK (l.drop k) = 0 ∨ most < getN (l.drop k))) : numS l most (some k) = some (k + getK (l.drop k)) ∧ numV l most (some k) = getN (l.drop k) := ⟨if_neg h, if_neg h⟩
theorem setS_bad {l : List UInt8} {m : BitVec 64} {k : Nat} (h : getK (l.drop k) = 0 ∨ ¬ setOk m (getN (l.drop k)) = true) : setS l m (some k) = none ∧ setV l m (some k) = 0 := ⟨if_pos h, if_pos h⟩
theorem setS_good {l : List UInt8} {m : BitVec 64} {k : Nat} (h : ¬ (getK (l.drop k) = 0 ∨ ¬ setOk m (getN (l.drop k)) = true)) : setS l m (some k) = some (k + getK (l.drop k)) ∧ setV l m (some k) = getN (l.drop k) := ⟨if_neg h, if_neg h⟩
theorem getL_nil : getN [] = 0 ∧ getK [] = 0 := ⟨rfl, rfl⟩
theorem nat_bv {n : Nat} (h : n < 18446744073709551616) : (n : Int) = ((BitVec.ofNat 64 n).toNat : Int) := by rw [BitVec.toNat_ofNat, Nat.mod_eq_of_lt (by omega)]
theorem numV_lt (l : List UInt8) (most : Nat) (st : Option Nat) : numV l most st < 18446744073709551616 := by
  unfold numV
  split
  · split
    · omega
    · exact getN_lt _
  · omega
theorem numV_le (l : List UInt8) (most : Nat) (st : Option Nat) : numV l most st ≤ most := by
  unfold numV
  split
  · split <;> omega
  · omega
theorem setV_lt (l : List UInt8) (m : BitVec 64) (st : Option Nat) : setV l m st < 18446744073709551616 := by
  unfold setV
  split
  · split
    · omega
    · exact getN_lt _
  · omega
end Go.Shoal
