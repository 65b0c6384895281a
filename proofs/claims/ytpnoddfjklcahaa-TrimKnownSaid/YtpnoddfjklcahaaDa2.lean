import Derived.Test.YtpnoddfjklcahaaDa1
import Derived.Test.YtpnoddfjklcahaaLv14
set_option linter.all false
namespace Go.Shoal
open Go Go.Lv

/-! ### logs put together -/
def bothE (heard : List En) (x : En) : Option En := if there heard x then (heard[pos heard x]?).map fun y => { x with t := x.t &&& y.t } else none
def bothL (own heard : List En) : List En := own.filterMap (bothE heard)
def joinU (own heard : List En) : List En := newsL own heard ++ newsL heard own ++ bothL own heard
def insE (x : En) : List En → List En
  | [] => [x]
  | y :: r => if ord x y < 0 then x :: y :: r else y :: insE x r
def sortE (l : List En) : List En := l.foldr insE []
def joinT (own heard : List En) : List En := if (good own && good heard) = true then sortE (joinU own heard) else own

theorem insE_perm (x : En) : ∀ l, (insE x l).Perm (x :: l)
  | [] => List.Perm.refl _
  | y :: r => by
    unfold insE
    split
    · exact List.Perm.refl _
    · exact ((insE_perm x r).cons y).trans (List.Perm.swap x y r)
theorem sortE_perm : ∀ l, (sortE l).Perm l
  | [] => List.Perm.refl _
  | x :: r => (insE_perm x (sortE r)).trans ((sortE_perm r).cons x)

/-- two keys apart -/
def Apart (a b : En) : Prop := ord a b ≠ 0
theorem ord_anti {a b : En} : ord a b < 0 ↔ ord b a > 0 := by
  constructor
  · intro h
    have h1 : ¬ ord b a < 0 := by rw [ord_lt] at *; omega
    have h2 : ¬ ord b a = 0 := by rw [ord_zero, ← BitVec.toNat_inj]; rw [ord_lt] at h; omega
    omega
  · intro h
    rw [ord_lt]
    have h1 : ¬ (b.f < a.f ∨ (b.f = a.f ∧ b.n.toNat < a.n.toNat)) := by rw [← ord_lt]; omega
    have h2 : ¬ (b.f = a.f ∧ b.n.toNat = a.n.toNat) := by
      rw [BitVec.toNat_inj, ← ord_zero]; omega
    omega
theorem apart_symm {a b : En} (h : Apart a b) : Apart b a := by
  unfold Apart at *
  rw [Ne, ord_zero] at *
  intro h2; exact h ⟨h2.1.symm, h2.2.symm⟩
theorem insE_rise (x : En) : ∀ {l : List En}, Rise l → (∀ y ∈ l, Apart x y) → Rise (insE x l)
  | [], _, _ => List.pairwise_singleton _ _
  | y :: r, h, ha => by
    obtain ⟨h1, h2⟩ := List.pairwise_cons.1 h
    unfold insE
    split
    · rename_i hlt
      refine List.pairwise_cons.2 ⟨fun z hz => ?_, h⟩
      rcases List.mem_cons.1 hz with rfl | hz
      · exact hlt
      · exact ord_trans hlt (h1 z hz)
    · rename_i hlt
      have hne : ord x y ≠ 0 := ha y (by simp)
      have hyx : ord y x < 0 := ord_anti.2 (by omega)
      refine List.pairwise_cons.2 ⟨fun z hz => ?_, insE_rise x h2 fun z hz => ha z (List.mem_cons_of_mem _ hz)⟩
      rcases List.mem_cons.1 ((insE_perm x r).mem_iff.1 hz) with rfl | hz
      · exact hyx
      · exact h1 z hz
theorem sortE_rise : ∀ {l : List En}, l.Pairwise Apart → Rise (sortE l)
  | [], _ => List.Pairwise.nil
  | x :: r, h => by
    obtain ⟨h1, h2⟩ := List.pairwise_cons.1 h
    exact insE_rise x (sortE_rise h2) fun y hy => h1 y ((sortE_perm r).mem_iff.1 hy)

theorem ord_irrefl (a : En) : ¬ ord a a < 0 := by rw [ord_lt]; omega
theorem rise_unique : ∀ {l1 l2 : List En}, Rise l1 → Rise l2 → l1.Perm l2 → l1 = l2
  | [], l2, _, _, h => (List.nil_perm.1 h).symm
  | x :: r, [], _, _, h => absurd h.length_eq (by simp)
  | x :: r, y :: s, h1, h2, h => by
    obtain ⟨a1, a2⟩ := List.pairwise_cons.1 h1
    obtain ⟨b1, b2⟩ := List.pairwise_cons.1 h2
    have e : x = y := by
      have hx : x ∈ y :: s := h.mem_iff.1 (by simp)
      have hy : y ∈ x :: r := h.mem_iff.2 (by simp)
      rcases List.mem_cons.1 hx with h3 | h3
      · exact h3
      · rcases List.mem_cons.1 hy with h4 | h4
        · exact h4.symm
        · exact absurd (ord_trans (b1 x h3) (a1 y h4)) (ord_irrefl y)
    subst e
    rw [rise_unique a2 b2 (List.Perm.cons_inv h)]

theorem there_iff {l : List En} (hl : Rise l) {x : En} : there l x = true ↔ ∃ y ∈ l, ord y x = 0 := by
  unfold there
  constructor
  · intro h
    split at h
    · rename_i e he
      exact ⟨e, List.mem_of_getElem? he, by simpa using h⟩
    · cases h
  · rintro ⟨y, hy, h0⟩
    obtain ⟨i, hi, rfl⟩ := List.getElem_of_mem hy
    have hyi : l[i]? = some l[i] := List.getElem?_eq_getElem hi
    have hlow : ∀ k z, k < i → l[k]? = some z → ord z x < 0 := fun k z hk hz => by
      have h1 := rise_lt hl hk hz hyi
      rw [ord_zero] at h0
      rw [ord_lt] at *
      rw [← h0.1, ← h0.2]; exact h1
    have hhigh : ∀ k z, i ≤ k → l[k]? = some z → ord z x ≥ 0 := from_high hl hyi (by omega)
    rw [pos_eq hlow hhigh (by omega), hyi]
    simpa using h0

theorem apart_of_rise {l : List En} (h : Rise l) : l.Pairwise Apart := h.imp fun h => by unfold Apart; omega
theorem ord_zero_symm {a b : En} (h : ord a b = 0) : ord b a = 0 := by rw [ord_zero] at *; exact ⟨h.1.symm, h.2.symm⟩
theorem ord_zero_trans {a b c : En} (h : ord a b = 0) (k : ord b c = 0) : ord a c = 0 := by rw [ord_zero] at *; exact ⟨h.1.trans k.1, h.2.trans k.2⟩
theorem ord_key {a b c : En} (hf : a.f = b.f) (hn : a.n = b.n) : ord a c = ord b c := by simp [ord, hf, hn]
theorem bothE_some {heard : List En} {x z : En} (h : bothE heard x = some z) : there heard x = true ∧ z.f = x.f ∧ z.n = x.n := by
  unfold bothE at h
  split at h
  · rename_i ht
    simp only [Option.map_eq_some_iff] at h
    obtain ⟨y, _, rfl⟩ := h
    exact ⟨ht, rfl, rfl⟩
  · cases h
theorem isNew_not {other : List En} {x : En} (h : isNew other x = true) : there other x = false := by
  unfold isNew at h; simp at h; exact h.1

theorem joinU_apart {own heard : List En} (h1 : Rise own) (h2 : Rise heard) : (joinU own heard).Pairwise Apart := by
  unfold joinU
  have key : ∀ (a b z : En), z.f = b.f ∧ z.n = b.n → (Apart a z ↔ Apart a b) := fun a b z h => by
    unfold Apart; rw [Ne, Ne, ord_zero, ord_zero, h.1, h.2]
  refine List.pairwise_append.2 ⟨List.pairwise_append.2 ⟨(apart_of_rise h1).filter _, (apart_of_rise h2).filter _, ?_⟩, ?_, ?_⟩
  · intro a ha b hb h0
    obtain ⟨ha1, ha2⟩ := List.mem_filter.1 ha
    obtain ⟨hb1, hb2⟩ := List.mem_filter.1 hb
    have := (there_iff h2).2 ⟨b, hb1, ord_zero_symm h0⟩
    rw [isNew_not ha2] at this; cases this
  · unfold bothL
    rw [List.pairwise_filterMap]
    refine (apart_of_rise h1).imp ?_
    intro a b hab z hz y hy
    obtain ⟨_, z1, z2⟩ := bothE_some hz
    obtain ⟨_, y1, y2⟩ := bothE_some hy
    rw [key z b y ⟨y1, y2⟩]
    have := (key b a z ⟨z1, z2⟩).2 (apart_symm hab)
    exact apart_symm this
  · intro a ha z hz h0
    obtain ⟨b, hb, hbz⟩ := List.mem_filterMap.1 hz
    obtain ⟨ht, z1, z2⟩ := bothE_some hbz
    have h0' : ord a b = 0 := by rw [ord_zero] at *; exact ⟨h0.1.trans z1, h0.2.trans z2⟩
    rcases List.mem_append.1 ha with ha | ha
    · obtain ⟨ha1, ha2⟩ := List.mem_filter.1 ha
      obtain ⟨c, hc, hcb⟩ := (there_iff h2).1 ht
      have := (there_iff h2).2 ⟨c, hc, ord_zero_trans hcb (ord_zero_symm h0')⟩
      rw [isNew_not ha2] at this; cases this
    · obtain ⟨ha1, ha2⟩ := List.mem_filter.1 ha
      have := (there_iff h1).2 ⟨b, hb, ord_zero_symm h0'⟩
      rw [isNew_not ha2] at this; cases this

theorem join_sorted {own heard l' : List En} (h1 : good own = true) (h2 : good heard = true) (hp : l'.Perm (joinU own heard)) (hs : ∀ (i j : Nat) (x y : En), i < j → l'[i]? = some x → l'[j]? = some y → ¬ ord y x < 0) : l' = joinT own heard := by
  have ha := joinU_apart (good_rise h1) (good_rise h2)
  have ha' : l'.Pairwise Apart := (hp.pairwise_iff (fun h => apart_symm h)).2 ha
  have hr : Rise l' := by
    unfold Rise
    rw [List.pairwise_iff_getElem] at ha' ⊢
    intro i j hi hj hij
    have h3 := ha' i j hi hj hij
    have h4 := hs i j _ _ hij (List.getElem?_eq_getElem hi) (List.getElem?_eq_getElem hj)
    unfold Apart at h3
    have h5 : ¬ ord l'[i] l'[j] > 0 := fun h => h4 (ord_anti.2 h)
    omega
  unfold joinT
  rw [if_pos (by rw [h1, h2]; rfl)]
  exact rise_unique hr (sortE_rise ha) (hp.trans (sortE_perm _).symm)

theorem there_get {l : List En} {x : En} (h : there l x = true) : ∃ y, l[pos l x]? = some y := by
  unfold there at h
  split at h
  · rename_i e he; exact ⟨e, he⟩
  · cases h
theorem both_step {l l2 : List En} {i : Nat} {x : En} (hx : l[i]? = some x) : bothL (l.take (i + 1)) l2 = bothL (l.take i) l2 ++ (bothE l2 x).toList := by
  unfold bothL
  rw [List.take_add_one, hx, List.filterMap_append]
  congr 1
theorem both_yes {l2 : List En} {x y : En} (h : there l2 x = true) (hy : l2[pos l2 x]? = some y) : bothE l2 x = some { x with t := x.t &&& y.t } := by
  unfold bothE; rw [if_pos h, hy]; rfl
theorem both_no {l2 : List En} {x : En} (h : there l2 x = false) : bothE l2 x = none := by
  unfold bothE; rw [if_neg (by rw [h]; exact Bool.false_ne_true)]
theorem news_len (a b : List En) : (newsL a b).length ≤ a.length := List.length_filter_le _ _
theorem both_len (a b : List En) : (bothL a b).length ≤ a.length := List.length_filterMap_le _ _
theorem joinT_len (a b : List En) : (joinT a b).length ≤ 2 * a.length + b.length := by
  unfold joinT
  split
  · rw [(sortE_perm _).length_eq]
    have h1 := news_len a b
    have h2 := news_len b a
    have h3 := both_len a b
    simp only [joinU, List.length_append]; omega
  · omega

theorem ord_swo : Go.Sort.SWO (Go.Proofs.ltOf ord) where
  irrefl x := by simp [Go.Proofs.ltOf, ord_irrefl]
  trans x y z h1 h2 := by
    simp only [Go.Proofs.ltOf, decide_eq_true_eq] at *
    exact ord_trans h1 h2
  ntrans x y z h1 h2 := by
    simp only [Go.Proofs.ltOf, decide_eq_false_iff_not] at *
    rw [ord_lt] at *; omega
end Go.Shoal
