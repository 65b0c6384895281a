import Derived.Test.YtpnoddfjklcahaaLv13
import Derived.Shelf.SlSortCmp.NoneTotal
set_option linter.all false
namespace Go.Lv
open Go.RowKit Go.Sort Go.Shelf Go.Proofs
section
variable {α : Type} [Inhabited α] {E : Enc α} {P : Program}

theorem Own.unblocked {e : TypeId} {l : List α} {A : Option Addr} {n c : Nat} {w : World} (h : Own E w e (.slice A n c) l) : ∀ ad, A = some ad → (Value.slice A n c).ownBlock = some ad.block := by
  rintro ad rfl
  rcases h.2 with ⟨h, _⟩ | ⟨g, off, cap, cur, h, _⟩
  · simp at h
  · simp only [Value.slice.injEq, Option.some.injEq] at h
    obtain ⟨rfl, _, _⟩ := h
    rfl

theorem sort_any {ρ : Ren} (L : SlLaysF0.n6 P ρ) {fs : FuncId} (hfs : ρ.f 6 = fs) (aE : ∀ w, (isAgg (ρ.t 24)).run P w = .ok true w) (zE : ∀ w, (Go.sizeOf (ρ.t 24)).run P w = .ok E.sz w) (cf : α → α → Int) (hO : SWO (ltOf cf)) (g : Nat)
    (eg : ∀ args w, (callFunc g args).run P w = .ok (.enter g args) w) (hcmp : ∀ (w : World) (x y : α), Fc P g #[.agg (E.enc x).toArray, .agg (E.enc y).toArray] w fun v w' => Ext w w' ∧ v = .int .i64 (cf x y))
    {w : World} {B : Nat} {e : TypeId} {l : List α} {A : Option Addr} {c : Nat} (hr : Nw B E e l (.slice A l.length c) w) (hlen : l.length ≤ 1000000) :
    Fc P fs #[.slice A l.length c, .func (.func g) #[] #[]] w fun _ w' => Only (fun k => (Value.slice A l.length c).ownBlock = some k) w w' ∧ ∃ l' : List α, l'.length = l.length ∧ l'.Perm l ∧ (∀ (i j : Nat) (x y : α), i < j → l'[i]? = some x → l'[j]? = some y → ¬ cf y x < 0) ∧ Nw B E e l' (.slice A l'.length c) w' := by
  cases A with
  | some ad =>
    have hb := hr.1.unblocked ad rfl
    refine (sort_row L hfs aE zE cf hO g eg hcmp hr hlen).mono ?_
    rintro v w' ⟨_, h1, l', h2, h3, h4, h5⟩
    exact ⟨h1.mono fun k _ hk => by rw [hb, hk], l', h2, h3, h4, h5⟩
  | none =>
    have hl : l = [] := hr.rd.none_nil rfl
    subst hl
    subst hfs
    intro n
    refine (AnyF.slices_SortFunc_none L none c (.func (.func g) #[] #[]) (w.drewN n)).mono ?_
    rintro e' w' ⟨rfl, rfl⟩
    exact ⟨_, w, n, Nat.le_refl _, rfl, rfl, Only.refl _ _, [], rfl, List.Perm.refl _, fun i j x y _ h => by simp at h, hr⟩
end
end Go.Lv
