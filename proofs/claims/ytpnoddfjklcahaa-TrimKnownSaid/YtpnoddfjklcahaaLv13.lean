import Derived.Test.YtpnoddfjklcahaaLv12
import Derived.Shelf.SlSortCmp.WholeK
set_option linter.all false
namespace Go.Lv
open Go.RowKit Go.Sort Go.Shelf Go.Proofs

/-! ### rows of one's own, sorted by the library -/
section
variable {α : Type} [Inhabited α] {E : Enc α} {P : Program}

theorem Enc.all_get (E : Enc α) (l : List α) {j : Nat} (hj : j < l.length * E.sz) : (E.all l)[j]? = some ((flatK E.enc E.sz l.toArray)[j]!) := by
  have hp := E.pos
  have h1 : j / E.sz < l.length := Nat.div_lt_of_lt_mul (by rw [Nat.mul_comm]; exact hj)
  have h2 : j % E.sz < E.sz := Nat.mod_lt _ hp
  have hx : l[j / E.sz]? = some l[j / E.sz] := List.getElem?_eq_getElem h1
  have hlen := E.len l[j / E.sz]
  have h3 := E.all_at l (j / E.sz) _ hx (j % E.sz) (E.enc l[j / E.sz])[j % E.sz] (List.getElem?_eq_getElem (by omega))
  have h4 : j / E.sz * E.sz + j % E.sz = j := by rw [Nat.mul_comm]; exact Nat.div_add_mod j E.sz
  rw [h4] at h3
  rw [h3, get_flatK _ _ _ _ (by simpa using hj)]
  congr 1
  have h5 : l.toArray[j / E.sz]! = l[j / E.sz] := by simp [h1]
  rw [h5]
  have h6 : j % E.sz < (E.enc l[j / E.sz]).length := by omega
  simp [h6]

theorem holds_row {w : World} {g off : Nat} {cur : Array Value} {e : TypeId} {l : List α} (hg : w.heap[g]? = some (.cells cur e (0, 0))) (ht : (cur.toList.drop off).take (l.length * E.sz) = E.all l) : HoldsK E.enc E.sz w g off l.toArray := by
  intro j hj
  have hj' : j < l.length * E.sz := by simpa using hj
  have h1 := E.all_get l hj'
  refine ⟨?_, by simp [World.frozen?, hg]⟩
  rw [← ht, List.getElem?_take, if_pos hj', List.getElem?_drop] at h1
  exact cell_get hg (by simpa using h1)

theorem row_of_holds {w : World} {g off cap : Nat} {cur : Array Value} {e : TypeId} {l : List α} (hg : w.heap[g]? = some (.cells cur e (0, 0))) (h : HoldsK E.enc E.sz w g off l.toArray) (hn : l.length ≤ cap) (hm : cap ≤ maxLen) (hs : off + cap * E.sz ≤ cur.size) :
    Own E w e (.slice (some ⟨g, off, none⟩) l.length cap) l := by
  refine ⟨E.all_len l, .inr ⟨g, off, cap, cur, rfl, hg, hn, hm, hs, ?_⟩⟩
  have hle : l.length * E.sz ≤ cap * E.sz := Nat.mul_le_mul_right _ hn
  apply List.ext_getElem?
  intro j
  rw [List.getElem?_take]
  split
  · rename_i hj
    rw [E.all_get l hj, List.getElem?_drop]
    have := (h j (by simpa using hj)).1
    simp only [World.cell?, hg] at this
    simpa using this
  · rename_i hj
    symm
    rw [List.getElem?_eq_none_iff, E.all_len]; omega

theorem ext_grow {w w' : World} (h : Ext w w') : ∃ os, w' = grow w os := by
  refine ⟨w'.heap.extract w.heap.size w'.heap.size, ?_⟩
  have hh : w'.heap = w.heap ++ w'.heap.extract w.heap.size w'.heap.size := by
    have hs := h.size
    apply Array.ext_getElem?
    intro i
    rcases Nat.lt_or_ge i w.heap.size with hi | hi
    · rw [Array.getElem?_append_left hi]; exact h.block i hi id
    · rw [Array.getElem?_append_right hi, Array.getElem?_extract]
      split
      · congr 1; omega
      · rw [Array.getElem?_eq_none (by omega)]
  have h1 := h.os
  have h2 := h.tape
  have h3 := h.output
  have h4 := h.drawn
  cases w; cases w'
  simp only [grow] at *
  subst h1; subst h2; subst h3; subst h4
  rw [← hh]

theorem sort_row {ρ : Ren} (L : SlLaysF0.n6 P ρ) {fs : FuncId} (hfs : ρ.f 6 = fs) (aE : ∀ w, (isAgg (ρ.t 24)).run P w = .ok true w) (zE : ∀ w, (Go.sizeOf (ρ.t 24)).run P w = .ok E.sz w) (cf : α → α → Int) (hO : SWO (ltOf cf)) (g : Nat)
    (eg : ∀ args w, (callFunc g args).run P w = .ok (.enter g args) w) (hcmp : ∀ (w : World) (x y : α), Fc P g #[.agg (E.enc x).toArray, .agg (E.enc y).toArray] w fun v w' => Ext w w' ∧ v = .int .i64 (cf x y))
    {w : World} {B : Nat} {e : TypeId} {l : List α} {ad : Addr} {c : Nat} (hr : Nw B E e l (.slice (some ad) l.length c) w) (hlen : l.length ≤ 1000000) :
    Fc P fs #[.slice (some ad) l.length c, .func (.func g) #[] #[]] w fun v w' => v = .tuple #[] ∧ Only (· = ad.block) w w' ∧ ∃ l' : List α, l'.length = l.length ∧ l'.Perm l ∧ (∀ (i j : Nat) (x y : α), i < j → l'[i]? = some x → l'[j]? = some y → ¬ cf y x < 0) ∧ Nw B E e l' (.slice (some ad) l'.length c) w' := by
  subst hfs
  rcases hr.1.2 with ⟨h, _⟩ | ⟨gb, off, cap, cur, h, hg, hnc, hcm, hcs, ht⟩
  · simp at h
  simp only [Value.slice.injEq, Option.some.injEq, true_and] at h
  obtain ⟨rfl, rfl⟩ := h
  intro n
  have hH : HoldsK E.enc E.sz (w.drewN n) gb off l.toArray := holds_row (w := w.drewN n) hg ht
  have hcm' : CmpLays P g #[] E.enc E.sz cf gb off l.toArray.size (w.drewN n) := by
    intro m os dk hdk x y
    refine (hcmp (sortWorldK E.enc E.sz (w.drewN n) gb off m dk os) x y 0).mono ?_
    rintro e' w' ⟨v, w1, m', _, rfl, rfl, hext, rfl⟩
    obtain ⟨os', rfl⟩ := ext_grow hext
    exact ⟨rfl, m', os', rfl⟩
  have hcon := AnyQ.slices_SortFunc L E.sz aE zE E.enc E.len E.one cf hO g #[] gb off c l.toArray (w.drewN n) eg hcm' hH (blk_lt hg) (by simp; omega)
  refine hcon.mono ?_
  rintro e' w' ⟨rfl, d', m, os, hp, hs, rfl⟩
  have hsz : d'.size = l.length := by simpa using hp.1
  have hext0 : (grow (putRowK E.enc E.sz w gb off d') os).heap[gb]? = some (.cells (putCells id off (flatK E.enc E.sz d') cur) e (0, 0)) := by
    have hlt := blk_lt hg
    show (w.heap.modify gb _ ++ os)[gb]? = _
    rw [Array.getElem?_append_left (by simpa using hlt), Array.getElem?_modify, if_pos rfl, hg]
    rfl
  refine ⟨_, grow (putRowK E.enc E.sz w gb off d') os, n + m, by omega, rfl, ?_, rfl, ⟨rfl, rfl, rfl, rfl, ?_, ?_⟩, d'.toList, by simpa using hsz, ?_, ?_, ?_, fun q hq => hr.2 q hq⟩
  · show Go.Sort.grow (putRowK E.enc E.sz (Go.Sort.ahead (w.drewN n) m) gb off d') os = _
    unfold World.drewN Go.Sort.ahead putRowK putRow mapBlock grow
    simp [Nat.add_assoc]
  · show w.heap.size ≤ (w.heap.modify gb _ ++ os).size
    simp
  · intro k hk hne
    show (w.heap.modify gb _ ++ os)[k]? = _
    rw [Array.getElem?_append_left (by simpa using hk), Array.getElem?_modify, if_neg (fun h => hne h.symm)]
  · have := hp.2.2
    simp only [List.size_toArray, ← hsz] at this
    rw [Array.extract_size] at this
    have h2 : (l.toArray.extract 0 d'.size).toList = l := by rw [hsz]; simp
    rwa [h2] at this
  · intro i j x y hij hx hy
    obtain ⟨hi, rfl⟩ := List.getElem?_eq_some_iff.1 hx
    obtain ⟨hj, rfl⟩ := List.getElem?_eq_some_iff.1 hy
    have hj' : j < d'.size := by simpa using hj
    have hi' : i < d'.size := by simpa using hi
    have := hs i j (Nat.zero_le _) hij (by simpa [hsz] using hj')
    rw [getElem!_pos d' j hj', getElem!_pos d' i hi'] at this
    simp only [ltOf, decide_eq_false_iff_not] at this
    simpa using this
  · have hlen' : d'.toList.length = l.length := by simpa using hsz
    have hle : l.length * E.sz ≤ c * E.sz := Nat.mul_le_mul_right _ hnc
    have hH' : HoldsK E.enc E.sz (grow (putRowK E.enc E.sz w gb off d') os) gb off d'.toList.toArray := by
      have h1 := holdsK_putRowK (enc := E.enc) (k := E.sz) w gb off l.toArray d' (holds_row hg ht) (by simpa using hsz)
      intro j hj
      have h2 := h1 j (by simpa using hj)
      have hlt := blk_lt hg
      have hsame : (grow (putRowK E.enc E.sz w gb off d') os).heap[gb]? = (putRowK E.enc E.sz w gb off d').heap[gb]? := by
        show ((putRowK E.enc E.sz w gb off d').heap ++ os)[gb]? = _
        rw [Array.getElem?_append_left (by show gb < (w.heap.modify gb _).size; simpa using hlt)]
      constructor
      · have := h2.1
        simp only [World.cell?, hsame] at this ⊢
        simpa using this
      · have := h2.2
        simp only [World.frozen?, hsame] at this ⊢
        simpa using this
    refine row_of_holds hext0 hH' (by omega) hcm ?_
    simpa [putCells] using hcs
end
end Go.Lv
