import Derived.Test.YtpnoddfjklcahaaDa2
set_option linter.all false
namespace Go.Shoal
open Go Go.Lv

/-! ### what a purged log is -/
def cntT (l : List En) : Nat := l.countP fun x => decide (x.t ≠ 0)
theorem cntT_step {l : List En} {i : Nat} {x : En} (hx : l[i]? = some x) : cntT (l.take (i + 1)) = cntT (l.take i) + (if x.t ≠ 0 then 1 else 0) := by
  unfold cntT
  rw [List.take_add_one, hx, List.countP_append]
  simp [List.countP_cons]
theorem cntT_le (l : List En) (i : Nat) : cntT (l.take i) ≤ i := by
  unfold cntT
  exact Nat.le_trans List.countP_le_length (by rw [List.length_take]; omega)
theorem cntT_len (l : List En) : cntT l ≤ l.length := List.countP_le_length
theorem purge_cnt : ∀ l : List En, cntT (purgeL l) = cntT l
  | [] => rfl
  | x :: r => by
    have ih := purge_cnt r
    unfold purgeL
    split
    · simp only [cntT, List.countP_cons] at ih ⊢; rw [ih]
    · rename_i h
      simp only [cntT, List.countP_cons] at ih ⊢
      have : x.t = 0 := by
        simp only [Bool.or_eq_true, not_or] at h
        simpa using h.1
      rw [ih]; simp [this]
theorem purge_sub : ∀ l : List En, (purgeL l).Sublist l
  | [] => List.Sublist.refl _
  | x :: r => by
    unfold purgeL
    split
    · exact (purge_sub r).cons_cons x
    · exact (purge_sub r).cons x
theorem purge_good {l : List En} (h : good l = true) : good (purgeL l) = true := by
  rw [good_iff] at *
  exact ⟨h.1.sublist (purge_sub l), fun x hx => h.2 x ((purge_sub l).mem hx)⟩
theorem rise_f {x : En} {r : List En} (h : Rise (x :: r)) (hl : lastOf x r = true) : ∀ z ∈ r, z.f ≠ x.f := by
  intro z hz
  obtain ⟨h1, h2⟩ := List.pairwise_cons.1 h
  cases r with
  | nil => cases hz
  | cons y s =>
    have hy := h1 y (by simp)
    have hne : y.f ≠ x.f := by simpa [lastOf] using hl
    obtain ⟨h3, _⟩ := List.pairwise_cons.1 h2
    rcases List.mem_cons.1 hz with rfl | hz
    · exact hne
    · have := h3 z hz
      rw [ord_lt] at *; omega
theorem purge_adj : ∀ {l : List En}, Rise l → ∀ {i : Nat} {x y : En}, (purgeL l)[i]? = some x → (purgeL l)[i + 1]? = some y → x.t = 0 → ¬ y.f = x.f
  | [], _, i, x, y, h, _, _ => by simp [purgeL] at h
  | a :: r, h, i, x, y, hx, hy, ht => by
    have hr : Rise r := (List.pairwise_cons.1 h).2
    unfold purgeL at hx hy
    split at hx
    · rename_i hk
      rw [if_pos hk] at hy
      cases i with
      | zero =>
        simp only [List.getElem?_cons_zero, Option.some.injEq] at hx
        subst hx
        have hl : lastOf a r = true := by
          simp only [Bool.or_eq_true] at hk
          rcases hk with hk | hk
          · simp [ht] at hk
          · exact hk
        have hm : y ∈ purgeL r := List.mem_of_getElem? (by simpa using hy)
        exact rise_f h hl y ((purge_sub r).mem hm)
      | succ i => exact purge_adj hr (by simpa using hx) (by simpa using hy) ht
    · rename_i hk
      rw [if_neg hk] at hy
      exact purge_adj hr hx hy ht
theorem purgeT_good {l : List En} (h : good l = true) : purgeT l = purgeL l := by unfold purgeT; rw [if_pos h]
theorem purge_len (l : List En) : (purgeL l).length ≤ l.length := (purge_sub l).length_le
end Go.Shoal
