import Derived.Test.YtpnoddfjklcahaaDa5
import Derived.Test.YtpnoddfjklcahaaDa6
set_option linter.all false
namespace Go.Shoal
open Go Go.Lv

/-! ### logs as bytes -/
def putEn (x : En) : List UInt8 := lebL x.f.toNat ++ lebL x.n.toNat ++ lebL x.t.toNat
def accL (l : List En) (i : Nat) : List UInt8 := lebL l.length ++ (l.take i).flatMap putEn
def putT (l : List En) : List UInt8 := if good l then accL l l.length else []
theorem accL_step {l : List En} {i : Nat} {x : En} (hx : l[i]? = some x) : accL l i ++ lebL x.f.toNat ++ lebL x.n.toNat ++ lebL x.t.toNat = accL l (i + 1) := by
  unfold accL
  rw [List.take_add_one, hx]
  simp [putEn, List.append_assoc]
theorem putEn_len (x : En) : 3 ≤ (putEn x).length ∧ (putEn x).length ≤ 30 := by
  have h1 := lebL_le x.f.toNat
  have h2 := lebL_le x.n.toNat
  have h3 := lebL_le x.t.toNat
  have k1 := lebF_pos 9 x.f.toNat
  have k2 := lebF_pos 9 x.n.toNat
  have k3 := lebF_pos 9 x.t.toNat
  simp only [putEn, List.length_append, lebL] at *; omega
theorem flat_len : ∀ l : List En, 3 * l.length ≤ (l.flatMap putEn).length ∧ (l.flatMap putEn).length ≤ 30 * l.length
  | [] => by simp
  | x :: r => by
    have h := putEn_len x
    have ih := flat_len r
    simp only [List.flatMap_cons, List.length_append, List.length_cons]; omega
theorem accL_len (l : List En) {i : Nat} (hi : i ≤ l.length) : (accL l i).length ≤ 10 + 30 * i := by
  have h1 := lebL_le l.length
  have h2 := (flat_len (l.take i)).2
  rw [List.length_take] at h2
  simp only [accL, List.length_append]; omega
theorem putT_good {l : List En} (h : good l = true) : putT l = accL l l.length := by unfold putT; rw [if_pos h]
theorem putT_bad {l : List En} (h : ¬ good l = true) : putT l = [] := by unfold putT; rw [if_neg h]
theorem may_f {x : En} (h : may x = true) : 0 ≤ x.f ∧ x.f < 16 := by
  unfold may at h
  simp only [Bool.and_eq_true, decide_eq_true_eq] at h
  exact ⟨h.1.1.1, h.1.1.2⟩
theorem bv16 (i : Nat) (hi : i < 64) : (allM 16).getLsbD i = decide (i < 16) := by
  have : ∀ j : Fin 64, (allM 16).getLsbD j.val = decide (j.val < 16) := by decide
  exact this ⟨i, hi⟩
theorem within_16 (t : BitVec 64) : within t (allM 16) = decide (t.toNat ≤ 65535) := by
  unfold within
  refine decide_eq_decide.2 ?_
  constructor
  · intro h
    have hb : ∀ i, i ≥ 16 → t.toNat.testBit i = false := fun i hi => by
      by_cases h64 : i < 64
      · have h1 : (t &&& ~~~ allM 16).getLsbD i = false := by rw [h]; simp
        rw [BitVec.getLsbD_and, BitVec.getLsbD_not, bv16 i h64] at h1
        have h2 : t.getLsbD i = false := by simpa [h64, Nat.not_lt.2 hi] using h1
        exact h2
      · exact Nat.testBit_lt_two_pow (Nat.lt_of_lt_of_le t.isLt (Nat.pow_le_pow_right (by omega) (by omega)))
    have := Nat.lt_pow_two_of_testBit t.toNat hb
    omega
  · intro h
    refine bv_ext fun i hi => ?_
    rw [BitVec.getLsbD_and, BitVec.getLsbD_not, bv16 i hi]
    by_cases h16 : i < 16
    · simp [h16]
    · have : t.getLsbD i = false := Nat.testBit_lt_two_pow (Nat.lt_of_lt_of_le (show t.toNat < 2 ^ 16 by omega) (Nat.pow_le_pow_right (by omega) (by omega)))
      simp [this]
theorem may_eq (x : En) : may x = (decide (x.f ≥ 0) && decide (x.f ≤ 15) && decide (x.n.toNat ≥ 1) && decide (x.t.toNat ≤ 65535)) := by
  unfold may
  rw [within_16]
  congr 1
  congr 1
  · congr 1
    exact decide_eq_decide.2 (by omega)
  · exact decide_eq_decide.2 (by omega)
theorem setOk_16 {n : Nat} (h : n < 18446744073709551616) : setOk (allM 16) n = decide (n ≤ 65535) := by
  unfold setOk
  rw [within_16, BitVec.toNat_ofNat, Nat.mod_eq_of_lt (by omega)]
theorem set_num (l : List UInt8) (st : Option Nat) : setS l (allM 16) st = numS l 65535 st ∧ setV l (allM 16) st = numV l 65535 st := by
  cases st with
  | none => exact ⟨rfl, rfl⟩
  | some k =>
    have h := setOk_16 (getN_lt (l.drop k))
    unfold setS setV numS numV
    simp only [h, decide_eq_true_eq, Nat.not_le]
    exact ⟨trivial, trivial⟩

/-! what is read -/
def M64 : Nat := 18446744073709551615
def stP (l : List UInt8) (st : Option Nat) : Option Nat := setS l (allM 16) (numS l M64 (numS l 16 st))
def enP (l : List UInt8) (st : Option Nat) : En := ⟨(numV l 16 st : Int), BitVec.ofNat 64 (numV l M64 (numS l 16 st)), BitVec.ofNat 64 (setV l (allM 16) (numS l M64 (numS l 16 st)))⟩
def runP (l : List UInt8) : Nat → Option Nat → List En → Option Nat × List En
  | 0, st, acc => (st, acc)
  | k + 1, st, acc => runP l k (stP l st) (acc ++ [enP l st])
def endF (l : List UInt8) (r : Option Nat × List En) : Option (List En) := if (endO l r.1 && good r.2) = true then some r.2 else none
def getP (l : List UInt8) : Option (List En) := endF l (runP l (numV l l.length (some 0)) (numS l l.length (some 0)) [])
def stR (l : List UInt8) (st : Option Nat) : Option Nat := numS l 65535 (numS l M64 (numS l 15 st))
def enR (l : List UInt8) (st : Option Nat) : En := ⟨(numV l 15 st : Int), BitVec.ofNat 64 (numV l M64 (numS l 15 st)), BitVec.ofNat 64 (numV l 65535 (numS l M64 (numS l 15 st)))⟩
def runR (l : List UInt8) : Nat → Option Nat → List En → Option Nat × List En
  | 0, st, acc => (st, acc)
  | k + 1, st, acc => if badO st = true then (st, acc) else runR l k (stR l st) (acc ++ [enR l st])
def getR (l : List UInt8) : Option (List En) := endF l (runR l (numV l 4294967296 (some 0)) (numS l 4294967296 (some 0)) [])

theorem endF_bad {l : List UInt8} {r : Option Nat × List En} (h : r.1 = none) : endF l r = none := by
  unfold endF; rw [h]; rfl
theorem runP_none (l : List UInt8) : ∀ k acc, (runP l k none acc).1 = none
  | 0, _ => rfl
  | k + 1, acc => runP_none l k _
theorem runR_none (l : List UInt8) : ∀ k acc, (runR l k none acc).1 = none
  | 0, _ => rfl
  | _ + 1, _ => rfl
theorem runP_pre (l : List UInt8) : ∀ k st acc, ∃ r, (runP l k st acc).2 = acc ++ r
  | 0, _, acc => ⟨[], by simp [runP]⟩
  | k + 1, st, acc => by
    obtain ⟨r, h⟩ := runP_pre l k (stP l st) (acc ++ [enP l st])
    exact ⟨[enP l st] ++ r, by rw [runP, h, List.append_assoc]⟩
theorem endF_may {l : List UInt8} {r : Option Nat × List En} {x : En} (hx : x ∈ r.2) (hm : may x = false) : endF l r = none := by
  unfold endF
  rw [if_neg]
  intro h
  simp only [Bool.and_eq_true] at h
  have := good_may h.2 x hx
  rw [hm] at this; cases this
theorem numS_15 {l : List UInt8} {k q : Nat} (h : numS l 15 (some k) = some q) : numS l 16 (some k) = some q ∧ numV l 16 (some k) = numV l 15 (some k) := by
  unfold numS at h
  unfold numS numV
  simp only at h ⊢
  split at h
  · cases h
  · rename_i hc
    rw [if_neg (by omega), if_neg (by omega), if_neg (by omega)]
    exact ⟨h, rfl⟩
theorem numS_16 {l : List UInt8} {k : Nat} (h : numS l 15 (some k) = none) : numS l 16 (some k) = none ∨ numV l 16 (some k) = 16 := by
  unfold numS at h
  unfold numS numV
  simp only at h ⊢
  split at h
  · rename_i hc
    by_cases h2 : getK (l.drop k) = 0 ∨ 16 < getN (l.drop k)
    · left; rw [if_pos h2]
    · right; rw [if_neg h2]; omega
  · cases h
theorem run_eq (l : List UInt8) : ∀ k st acc, endF l (runR l k st acc) = endF l (runP l k st acc)
  | 0, _, _ => rfl
  | k + 1, none, acc => by rw [endF_bad (runP_none l (k + 1) acc)]; exact endF_bad rfl
  | k + 1, some p, acc => by
    show endF l (if badO (some p) = true then _ else _) = _
    rw [if_neg (by simp [badO]), runP]
    cases h : numS l 15 (some p) with
    | some q =>
      obtain ⟨h1, h2⟩ := numS_15 h
      have e1 : stR l (some p) = stP l (some p) := by unfold stR stP; rw [(set_num l _).1, h, h1]
      have e2 : enR l (some p) = enP l (some p) := by unfold enR enP; rw [(set_num l _).2, h, h1, h2]
      rw [e1, e2]
      exact run_eq l k _ _
    | none =>
      have e1 : stR l (some p) = none := by unfold stR; rw [h]; rfl
      rw [e1, endF_bad (runR_none l k _)]
      symm
      rcases numS_16 h with h3 | h3
      · have e3 : stP l (some p) = none := by unfold stP; rw [h3]; rfl
        rw [e3]; exact endF_bad (runP_none l k _)
      · obtain ⟨r, hr⟩ := runP_pre l k (stP l (some p)) (acc ++ [enP l (some p)])
        refine endF_may (x := enP l (some p)) (by rw [hr]; simp) ?_
        have hf : (enP l (some p)).f = 16 := by unfold enP; rw [h3]; rfl
        rw [may_eq, hf]; rfl
theorem numS_pos {l : List UInt8} {m p q : Nat} (h : numS l m (some p) = some q) : p < q ∧ q ≤ l.length := by
  unfold numS at h
  simp only at h
  split at h
  · cases h
  · rename_i hc
    simp only [Option.some.injEq] at h
    have := getK_le (l.drop p)
    rw [List.length_drop] at this
    omega
theorem numS_none (l : List UInt8) (m : Nat) : numS l m none = none := rfl
theorem numS_some {l : List UInt8} {m q : Nat} {st : Option Nat} (h : numS l m st = some q) : ∃ p, st = some p := by
  cases st with
  | none => cases h
  | some p => exact ⟨p, rfl⟩
theorem stR_pos {l : List UInt8} {p q : Nat} (h : stR l (some p) = some q) : p < q ∧ q ≤ l.length := by
  unfold stR at h
  obtain ⟨a, ha⟩ := numS_some h
  rw [ha] at h
  obtain ⟨b, hb⟩ := numS_some ha
  rw [hb] at ha
  have h1 := numS_pos hb
  have h2 := numS_pos ha
  have h3 := numS_pos h
  omega
theorem runR_pos (l : List UInt8) : ∀ k p acc q, (runR l k (some p) acc).1 = some q → p + k ≤ q ∧ (k = 0 ∨ q ≤ l.length)
  | 0, p, acc, q, h => by simp only [runR, Option.some.injEq] at h; omega
  | k + 1, p, acc, q, h => by
    rw [runR, if_neg (by simp [badO])] at h
    cases hs : stR l (some p) with
    | none => rw [hs, runR_none] at h; cases h
    | some r =>
      rw [hs] at h
      have h1 := stR_pos hs
      have h2 := runR_pos l k r _ q h
      cases k with
      | zero => simp only [runR, Option.some.injEq] at h; omega
      | succ k => omega
theorem getR_eq {l : List UInt8} (hl : l.length ≤ 4294967296) : getR l = getP l := by
  unfold getR getP
  rw [run_eq]
  by_cases hk : getK (l.drop 0) = 0
  · rw [(numS_bad (most := 4294967296) (.inl hk)).1, (numS_bad (most := l.length) (.inl hk)).1, endF_bad (runP_none l _ _), endF_bad (runP_none l _ _)]
  by_cases hn : l.length < getN (l.drop 0)
  · rw [(numS_bad (most := l.length) (.inr hn)).1, endF_bad (runP_none l _ _), ← run_eq]
    by_cases h2 : 4294967296 < getN (l.drop 0)
    · rw [(numS_bad (most := 4294967296) (.inr h2)).1, endF_bad (runR_none l _ _)]
    · obtain ⟨h3, h4⟩ := numS_good (l := l) (most := 4294967296) (k := 0) (by omega)
      rw [h3, h4]
      refine endF_bad ?_
      cases hq : (runR l (getN (l.drop 0)) (some (0 + getK (l.drop 0))) []).1 with
      | none => rfl
      | some q => have := runR_pos l _ _ _ q hq; omega
  · obtain ⟨h3, h4⟩ := numS_good (l := l) (most := 4294967296) (k := 0) (by omega)
    obtain ⟨h5, h6⟩ := numS_good (l := l) (most := l.length) (k := 0) (by omega)
    rw [h3, h4, h5, h6]

/-! what was written is read -/
theorem num_at {l r : List UInt8} {k n most : Nat} (hd : l.drop k = lebL n ++ r) (hn : n < 18446744073709551616) (hm : n ≤ most) : numS l most (some k) = some (k + (lebL n).length) ∧ numV l most (some k) = n := by
  obtain ⟨h1, h2⟩ := getL_some (getL_lebL hn r)
  rw [← hd] at h1 h2
  have hp := lebF_pos 9 n
  have hp2 : 0 < (lebL n).length := hp
  obtain ⟨h3, h4⟩ := numS_good (l := l) (most := most) (k := k) (by omega)
  rw [h3, h4, h1, h2]; exact ⟨rfl, rfl⟩
theorem drop_app {a b : List UInt8} : (a ++ b).drop a.length = b := by simp
theorem accL_split {l : List En} {i : Nat} {x : En} (hx : l[i]? = some x) : ∃ r, accL l l.length = accL l i ++ (lebL x.f.toNat ++ (lebL x.n.toNat ++ (lebL x.t.toNat ++ r))) := by
  refine ⟨(l.drop (i + 1)).flatMap putEn, ?_⟩
  unfold accL
  have : l.take l.length = l.take i ++ x :: l.drop (i + 1) := by
    rw [List.take_length, ← drop_at hx, List.take_append_drop]
  rw [this]
  simp [putEn, List.append_assoc]
theorem mayT {x : En} (h : may x = true) : x.t.toNat ≤ 65535 := by
  rw [may_eq] at h
  simp only [Bool.and_eq_true, decide_eq_true_eq] at h
  exact h.2
theorem step_at {l : List En} {i : Nat} {x : En} (hg : good l = true) (hx : l[i]? = some x) : stP (accL l l.length) (some (accL l i).length) = some (accL l (i + 1)).length ∧ enP (accL l l.length) (some (accL l i).length) = x := by
  obtain ⟨r, hr⟩ := accL_split hx
  have hm := good_may hg x (List.mem_of_getElem? hx)
  have hf := may_f hm
  have ht := mayT hm
  have d1 : (accL l l.length).drop (accL l i).length = lebL x.f.toNat ++ (lebL x.n.toNat ++ (lebL x.t.toNat ++ r)) := by rw [hr]; exact drop_app
  have d2 : (accL l l.length).drop ((accL l i).length + (lebL x.f.toNat).length) = lebL x.n.toNat ++ (lebL x.t.toNat ++ r) := by rw [← List.drop_drop, d1]; exact drop_app
  have d3 : (accL l l.length).drop ((accL l i).length + (lebL x.f.toNat).length + (lebL x.n.toNat).length) = lebL x.t.toNat ++ r := by rw [← List.drop_drop, d2]; exact drop_app
  have h1 := num_at (most := 16) d1 (by omega) (by omega)
  have h2 := num_at (most := M64) d2 (by have := x.n.isLt; omega) (by have := x.n.isLt; show x.n.toNat ≤ 18446744073709551615; omega)
  have h3 := num_at (most := 65535) d3 (by omega) ht
  constructor
  · unfold stP
    rw [(set_num _ _).1, h1.1, h2.1, h3.1, ← accL_step hx]
    simp only [List.length_append]
  · unfold enP
    rw [(set_num _ _).2, h1.1, h1.2, h2.1, h2.2, h3.2]
    have e1 : ((x.f.toNat : Nat) : Int) = x.f := by omega
    rw [e1, BitVec.ofNat_toNat, BitVec.ofNat_toNat, BitVec.setWidth_eq, BitVec.setWidth_eq]
theorem run_at {l : List En} (hg : good l = true) : ∀ k i, i + k = l.length → runP (accL l l.length) k (some (accL l i).length) (l.take i) = (some (accL l l.length).length, l)
  | 0, i, h => by
    have : i = l.length := by omega
    subst this
    rw [runP, List.take_length]
  | k + 1, i, h => by
    have hi : i < l.length := by omega
    have hx : l[i]? = some l[i] := List.getElem?_eq_getElem hi
    obtain ⟨h1, h2⟩ := step_at hg hx
    have h3 : l.take i ++ [l[i]] = l.take (i + 1) := by rw [List.take_add_one, hx]; rfl
    rw [runP, h1, h2, h3]
    exact run_at hg k (i + 1) (by omega)
theorem getP_putT {l : List En} (hg : good l = true) (hl : l.length < 18446744073709551616) : getP (putT l) = some l := by
  rw [putT_good hg]
  unfold getP
  have d0 : (accL l l.length).drop 0 = lebL l.length ++ (l.take l.length).flatMap putEn := rfl
  have hlen : l.length ≤ (accL l l.length).length := by
    have := (flat_len (l.take l.length)).1
    rw [List.length_take] at this
    simp only [accL, List.length_append]; omega
  obtain ⟨h1, h2⟩ := num_at (most := (accL l l.length).length) d0 hl hlen
  have e0 : some (0 + (lebL l.length).length) = some (accL l 0).length := by simp [accL]
  have h3 := run_at hg l.length 0 (by omega)
  rw [h1, h2, e0]
  rw [show ([] : List En) = l.take 0 from rfl, h3]
  unfold endF
  rw [if_pos]
  simp only [endO, hg, Bool.and_true, List.drop_length, List.length_nil, decide_true]
theorem runP_step {l : List UInt8} {k : Nat} {st : Option Nat} {acc : List En} (hk : k > 0) : runP l k st acc = runP l (k - 1) (stP l st) (acc ++ [enP l st]) := by
  obtain ⟨j, rfl⟩ : ∃ j, k = j + 1 := ⟨k - 1, by omega⟩
  rfl
theorem runR_step {l : List UInt8} {n i : Nat} {st : Option Nat} {acc : List En} (hi : i < n) (hb : badO st = false) : runR l (n - i) st acc = runR l (n - (i + 1)) (stR l st) (acc ++ [enR l st]) := by
  obtain ⟨j, hj⟩ : ∃ j, n - i = j + 1 := ⟨n - i - 1, by omega⟩
  rw [hj, show n - (i + 1) = j by omega, runR, if_neg (by rw [hb]; exact Bool.false_ne_true)]
theorem runR_bad {l : List UInt8} {st : Option Nat} (h : badO st = true) (k : Nat) (acc : List En) : runR l k st acc = (st, acc) := by
  cases st with
  | some p => cases h
  | none => cases k <;> rfl
theorem endF_yes {l : List UInt8} {st : Option Nat} {acc : List En} (h1 : endO l st = true) (h2 : good acc = true) : endF l (st, acc) = some acc := by
  unfold endF; rw [if_pos]; simp [h1, h2]
theorem endF_no {l : List UInt8} {st : Option Nat} {acc : List En} (h : endO l st = false ∨ good acc = false) : endF l (st, acc) = none := by
  unfold endF; rw [if_neg]
  rcases h with h | h <;> simp [h]
theorem runP_len (l : List UInt8) : ∀ k st acc, (runP l k st acc).2.length = acc.length + k
  | 0, _, _ => rfl
  | k + 1, st, acc => by rw [runP, runP_len l k, List.length_append]; simp only [List.length_cons, List.length_nil]; omega
theorem getP_len (l : List UInt8) : ((getP l).getD []).length ≤ l.length := by
  unfold getP endF
  split
  · simp only [Option.getD_some]
    rw [runP_len]
    have := numV_le l l.length (some 0)
    simpa using this
  · simp
theorem putT_len (l : List En) : (putT l).length ≤ 10 + 30 * l.length := by
  unfold putT
  split
  · exact accL_len l (Nat.le_refl _)
  · simp
end Go.Shoal
