import Derived.Test.YtpnoddfjklcahaaDa3
set_option linter.all false
namespace Go.Shoal
open Go Go.Lv

/-! ### the law of logs that are put together -/
theorem ord_self (x : En) : ord x x = 0 := by rw [ord_zero]; exact ⟨rfl, rfl⟩
theorem rise_inj {l : List En} (h : Rise l) {x y : En} (hx : x ∈ l) (hy : y ∈ l) (h0 : ord x y = 0) : x = y := by
  obtain ⟨i, hi, rfl⟩ := List.getElem_of_mem hx
  obtain ⟨j, hj, rfl⟩ := List.getElem_of_mem hy
  rcases Nat.lt_trichotomy i j with h1 | h1 | h1
  · have := rise_lt h h1 (List.getElem?_eq_getElem hi) (List.getElem?_eq_getElem hj); omega
  · subst h1; rfl
  · have := rise_lt h h1 (List.getElem?_eq_getElem hj) (List.getElem?_eq_getElem hi)
    have h2 := ord_zero_symm h0; omega
theorem rise_nodup {l : List En} (h : Rise l) : l.Nodup := h.imp fun {a b} hab e => by subst e; exact ord_irrefl _ hab
theorem apart_nodup {l : List En} (h : l.Pairwise Apart) : l.Nodup := h.imp fun {a b} hab e => by subst e; exact hab (ord_self _)
/-- the entry with the same key -/
theorem there_val {l : List En} (hl : Rise l) {x y : En} (hy : y ∈ l) (h0 : ord y x = 0) : there l x = true ∧ l[pos l x]? = some y := by
  have ht := (there_iff hl).2 ⟨y, hy, h0⟩
  refine ⟨ht, ?_⟩
  obtain ⟨z, hz⟩ := there_get ht
  have hz0 : ord z x = 0 := by
    unfold there at ht
    rw [hz] at ht
    simpa using ht
  have : z = y := rise_inj hl (List.mem_of_getElem? hz) hy (ord_zero_trans hz0 (ord_zero_symm h0))
  rw [hz, this]
theorem mem_both {own heard : List En} (hh : Rise heard) {z : En} : z ∈ bothL own heard ↔ ∃ x ∈ own, ∃ y ∈ heard, ord y x = 0 ∧ z = { x with t := x.t &&& y.t } := by
  unfold bothL
  rw [List.mem_filterMap]
  constructor
  · rintro ⟨x, hx, hb⟩
    unfold bothE at hb
    split at hb
    · rename_i ht
      obtain ⟨y, hy, h0⟩ := (there_iff hh).1 ht
      rw [(there_val hh hy h0).2] at hb
      simp only [Option.map_some, Option.some.injEq] at hb
      exact ⟨x, hx, y, hy, h0, hb.symm⟩
    · cases hb
  · rintro ⟨x, hx, y, hy, h0, rfl⟩
    exact ⟨x, hx, both_yes (there_val hh hy h0).1 (there_val hh hy h0).2⟩
theorem both_swap {a b : List En} (ha : Rise a) (hb : Rise b) (z : En) : z ∈ bothL a b ↔ z ∈ bothL b a := by
  rw [mem_both hb, mem_both ha]
  have key : ∀ x y : En, ord y x = 0 → ({ x with t := x.t &&& y.t } : En) = { y with t := y.t &&& x.t } := fun x y h => by
    rw [ord_zero] at h
    cases x; cases y
    simp only [En.mk.injEq] at *
    exact ⟨h.1.symm, h.2.symm, BitVec.and_comm _ _⟩
  constructor
  · rintro ⟨x, hx, y, hy, h0, rfl⟩
    exact ⟨y, hy, x, hx, ord_zero_symm h0, key x y h0⟩
  · rintro ⟨x, hx, y, hy, h0, rfl⟩
    exact ⟨y, hy, x, hx, ord_zero_symm h0, key x y h0⟩
theorem joinT_of {a b : List En} (h1 : good a = true) (h2 : good b = true) : joinT a b = sortE (joinU a b) := by
  unfold joinT; rw [if_pos (by rw [h1, h2]; rfl)]
theorem joinT_rise {a b : List En} (h1 : good a = true) (h2 : good b = true) : Rise (joinT a b) := by
  rw [joinT_of h1 h2]; exact sortE_rise (joinU_apart (good_rise h1) (good_rise h2))
theorem mem_joinT {a b : List En} (h1 : good a = true) (h2 : good b = true) {z : En} : z ∈ joinT a b ↔ z ∈ joinU a b := by
  rw [joinT_of h1 h2]; exact (sortE_perm _).mem_iff
theorem rise_ext {a b : List En} (h1 : Rise a) (h2 : Rise b) (h : ∀ z, z ∈ a ↔ z ∈ b) : a = b :=
  rise_unique h1 h2 ((List.perm_ext_iff_of_nodup (rise_nodup h1) (rise_nodup h2)).2 h)
theorem joinT_comm {a b : List En} (h1 : good a = true) (h2 : good b = true) : joinT a b = joinT b a := by
  refine rise_ext (joinT_rise h1 h2) (joinT_rise h2 h1) fun z => ?_
  rw [mem_joinT h1 h2, mem_joinT h2 h1]
  simp only [joinU, List.mem_append, both_swap (good_rise h1) (good_rise h2) z]
  constructor
  · rintro ((h | h) | h)
    · exact .inl (.inr h)
    · exact .inl (.inl h)
    · exact .inr h
  · rintro ((h | h) | h)
    · exact .inl (.inr h)
    · exact .inl (.inl h)
    · exact .inr h
theorem joinT_self {a : List En} (h : good a = true) : joinT a a = a := by
  have hr := good_rise h
  refine rise_ext (joinT_rise h h) hr fun z => ?_
  rw [mem_joinT h h]
  have hno : newsL a a = [] := by
    unfold newsL
    rw [List.filter_eq_nil_iff]
    intro x hx hn
    have := (there_iff hr).2 ⟨x, hx, ord_self x⟩
    rw [isNew_not hn] at this; cases this
  simp only [joinU, hno, List.nil_append]
  rw [mem_both hr]
  constructor
  · rintro ⟨x, hx, y, hy, h0, rfl⟩
    have := rise_inj hr hy hx h0
    subst this
    rw [BitVec.and_self]; exact hx
  · intro hz
    exact ⟨z, hz, z, hz, ord_self z, by rw [BitVec.and_self]⟩
theorem within_and {s t m : BitVec 64} (h : within s m = true) : within (s &&& t) m = true := by
  unfold within at *
  simp only [decide_eq_true_eq] at *
  rw [BitVec.and_assoc, BitVec.and_comm t, ← BitVec.and_assoc, h]; exact BitVec.zero_and
theorem may_less {x y : En} (hf : y.f = x.f) (hn : y.n = x.n) {t : BitVec 64} (ht : y.t = x.t &&& t) (h : may x = true) : may y = true := by
  unfold may at *
  simp only [Bool.and_eq_true] at *
  rw [hf, hn, ht]
  exact ⟨h.1, within_and h.2⟩
theorem joinT_good {a b : List En} (h1 : good a = true) (h2 : good b = true) : good (joinT a b) = true := by
  rw [good_iff]
  refine ⟨joinT_rise h1 h2, fun z hz => ?_⟩
  rw [mem_joinT h1 h2] at hz
  simp only [joinU, List.mem_append] at hz
  rcases hz with (hz | hz) | hz
  · exact good_may h1 z (List.mem_filter.1 hz).1
  · exact good_may h2 z (List.mem_filter.1 hz).1
  · obtain ⟨x, hx, y, hy, h0, rfl⟩ := (mem_both (good_rise h2)).1 hz
    exact may_less (x := x) (t := y.t) rfl rfl rfl (good_may h1 x hx)
theorem purge_fix : ∀ {l : List En}, (∀ (i : Nat) (x y : En), l[i]? = some x → l[i + 1]? = some y → x.t = 0 → ¬ y.f = x.f) → purgeL l = l
  | [], _ => rfl
  | x :: r, h => by
    have ih : purgeL r = r := purge_fix fun i a b ha hb => h (i + 1) a b (by simpa using ha) (by simpa using hb)
    rw [purgeL, if_pos, ih]
    simp only [Bool.or_eq_true, decide_eq_true_eq]
    by_cases ht : x.t = 0
    · right
      cases r with
      | nil => rfl
      | cons y s => simpa [lastOf] using h 0 x y rfl rfl ht
    · exact .inl ht
theorem purge_purge {l : List En} (h : good l = true) : purgeL (purgeL l) = purgeL l :=
  purge_fix fun _ _ _ hx hy ht => purge_adj (good_rise h) hx hy ht
theorem purgeT_purge {l : List En} (h : good l = true) : purgeT (purgeL l) = purgeL l := by rw [purgeT_good (purge_good h), purge_purge h]
theorem joinT_size {a b : List En} (h1 : good a = true) (h2 : good b = true) : (joinT a b).length ≤ 2 * a.length + b.length := by
  rw [joinT_of h1 h2, (sortE_perm _).length_eq]
  have := news_len a b
  have := news_len b a
  have := both_len a b
  simp only [joinU, List.length_append]; omega
end Go.Shoal
