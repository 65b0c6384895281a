import Derived.Test.YtpnoddfjklcahaaLv4
import Derived.Deep.AppendSrc
set_option linter.all false
namespace Go.Lv
open Go.RowKit

/-! ### what is as it was -/

/-- All blocks but those of S are as they were. -/
structure Only (S : Nat → Prop) (w w' : World) : Prop where
  os : w'.os = w.os
  tape : w'.tape = w.tape
  output : w'.output = w.output
  drawn : w'.drawn = w.drawn
  size : w.heap.size ≤ w'.heap.size
  block : ∀ k, k < w.heap.size → ¬ S k → w'.heap[k]? = w.heap[k]?

abbrev Ext (w w' : World) : Prop := Only (fun _ => False) w w'

theorem Only.refl (S : Nat → Prop) (w : World) : Only S w w := ⟨rfl, rfl, rfl, rfl, Nat.le_refl _, fun _ _ _ => rfl⟩
theorem Ext.refl (w : World) : Ext w w := Only.refl _ w
theorem Only.trans {S S' : Nat → Prop} {a b c : World} (h : Only S a b) (k : Only S' b c) (hS : ∀ i, i < a.heap.size → S' i → S i) : Only S a c :=
  ⟨k.os.trans h.os, k.tape.trans h.tape, k.output.trans h.output, k.drawn.trans h.drawn, Nat.le_trans h.size k.size, fun i hi hn => (k.block i (Nat.lt_of_lt_of_le hi h.size) (fun hs => hn (hS i hi hs))).trans (h.block i hi hn)⟩
theorem Only.tr {S : Nat → Prop} {a b c : World} (h : Only S a b) (k : Only S b c) : Only S a c := h.trans k fun _ _ h => h
theorem Only.ext {S : Nat → Prop} {a b c : World} (h : Only S a b) (k : Ext b c) : Only S a c := h.trans k fun _ _ h => h.elim
theorem Only.mono {S S' : Nat → Prop} {a b : World} (h : Only S a b) (hS : ∀ i, i < a.heap.size → S i → S' i) : Only S' a b :=
  ⟨h.os, h.tape, h.output, h.drawn, h.size, fun i hi hn => h.block i hi fun hs => hn (hS i hi hs)⟩
theorem Ext.only {S : Nat → Prop} {a b : World} (h : Ext a b) : Only S a b := h.mono fun _ _ h => h.elim
theorem Only.toExt {S : Nat → Prop} {a b : World} (h : Only S a b) (hS : ∀ i, i < a.heap.size → ¬ S i) : Ext a b := h.mono fun i hi hs => hS i hi hs
theorem Ext.alloc (w : World) (o : Obj) : Ext w (w.alloc o) := ⟨rfl, rfl, rfl, rfl, by simp, fun k hk _ => Below.heap_alloc w o k hk⟩
theorem Only.alloc {S : Nat → Prop} {a b : World} (h : Only S a b) (o : Obj) : Only S a (b.alloc o) := h.ext (Ext.alloc b o)
theorem Only.setCell (w : World) (p : Addr) (v : Value) : Only (· = p.block) w (w.setCell p v) := ⟨rfl, rfl, rfl, rfl, by simp [World.setCell], fun k _ hn => Below.heap_setCell w p v k hn⟩
theorem Only.setRow (w : World) (g : Nat) (cs : Array Value) : Only (· = g) w (w.setRow g cs) := ⟨rfl, rfl, rfl, rfl, by simp [World.setRow], fun k _ hn => setRow_other w g k cs hn⟩
theorem Ext.below {w w' : World} (h : Ext w w') : Below w.heap.size w w' := ⟨h.os, h.tape, h.output, h.size, fun k hk => h.block k hk id⟩
theorem Only.below {S : Nat → Prop} {w w' : World} (h : Only S w w') {B : Nat} (hB : ∀ i, i < w.heap.size → S i → B ≤ i) (hle : B ≤ w.heap.size) : Below B w w' :=
  ⟨h.os, h.tape, h.output, h.size, fun k hk => h.block k (by omega) fun hs => by have := hB k (by omega) hs; omega⟩
theorem Only.get {S : Nat → Prop} {w w' : World} (h : Only S w w') {k : Nat} {o : Obj} (hk : w.heap[k]? = some o) (hn : ¬ S k) : w'.heap[k]? = some o :=
  (h.block k (Array.getElem?_eq_some_iff.1 hk).1 hn).trans hk
theorem Ext.get {w w' : World} (h : Ext w w') {k : Nat} {o : Obj} (hk : w.heap[k]? = some o) : w'.heap[k]? = some o := Only.get h hk id
theorem blk_lt {w : World} {k : Nat} {o : Obj} (h : w.heap[k]? = some o) : k < w.heap.size := (Array.getElem?_eq_some_iff.1 h).1
theorem new_get (w : World) (o : Obj) : (w.alloc o).heap[w.heap.size]? = some o := by show (w.heap.push o)[w.heap.size]? = some o; simp
theorem alloc_size (w : World) (o : Obj) : (w.alloc o).heap.size = w.heap.size + 1 := by show (w.heap.push o).size = _; simp
theorem alloc_get {w : World} {k : Nat} {x : Obj} (h : w.heap[k]? = some x) (o : Obj) : (w.alloc o).heap[k]? = some x := (Below.heap_alloc w o k (blk_lt h)).trans h
theorem cell_get {w : World} {b i : Nat} {cs : Array Value} {t : TypeId} {fr : Nat × Nat} {v : Value} (h : w.heap[b]? = some (.cells cs t fr)) (hv : cs[i]? = some v) : w.cell? ⟨b, i, none⟩ = some v := by
  simp [World.cell?, h, hv]
theorem Only.cell {S : Nat → Prop} {w w' : World} (h : Only S w w') {a : Addr} {v : Value} (hc : w.cell? a = some v) (hn : ¬ S a.block) : w'.cell? a = some v :=
  (World.cell?_of_block (h.block a.block (World.block_lt_of_cell? w a hc) hn)).trans hc
theorem setCell_get {w : World} {b : Nat} {cs : Array Value} {t : TypeId} {fr : Nat × Nat} (h : w.heap[b]? = some (.cells cs t fr)) (i : Nat) (v : Value) : (w.setCell ⟨b, i, none⟩ v).heap[b]? = some (.cells (cs.setIfInBounds i v) t fr) := by
  have hlt := blk_lt h
  have hv : w.heap[b] = .cells cs t fr := (Array.getElem?_eq_some_iff.1 h).2
  simp only [World.setCell]
  rw [Array.getElem?_eq_getElem (by simpa using hlt), Array.getElem_modify]
  simp [hv]

/-! ### cells behind a slice's address -/

def Cells (w : World) (A : Option Addr) (xs : List Value) : Prop := ∀ j u, xs[j]? = some u → ∃ ad, A = some ad ∧ w.cell? (ad.add j) = some u

theorem Cells.nil (w : World) (A : Option Addr) : Cells w A [] := fun j u h => by simp at h
theorem add_block (a : Addr) (n : Nat) : (a.add n).block = a.block := by unfold Addr.add; split <;> rfl
theorem Cells.only {S : Nat → Prop} {w w' : World} {A : Option Addr} {xs : List Value} (h : Cells w A xs) (ho : Only S w w') (hn : ∀ ad, A = some ad → xs ≠ [] → ¬ S ad.block) : Cells w' A xs := by
  intro j u hj
  obtain ⟨ad, hA, hc⟩ := h j u hj
  refine ⟨ad, hA, ho.cell hc ?_⟩
  rw [add_block]
  exact hn ad hA (fun e => by rw [e] at hj; simp at hj)
theorem Cells.ext {w w' : World} {A : Option Addr} {xs : List Value} (h : Cells w A xs) (ho : Ext w w') : Cells w' A xs := h.only ho fun _ _ _ => id
theorem Cells.some {w : World} {ad : Addr} {xs : List Value} (h : Cells w (some ad) xs) : ∀ j u, xs[j]? = some u → w.cell? (ad.add j) = some u := fun j u hj => by
  obtain ⟨_, e, hc⟩ := h j u hj
  cases e; exact hc
theorem add_add (a : Addr) (n m : Nat) : (a.add n).add m = a.add (n + m) := by
  unfold Addr.add
  by_cases h1 : n = 0 <;> by_cases h2 : m = 0 <;> simp [h1, h2, Nat.add_assoc]
theorem Cells.drop {w : World} {A : Option Addr} {xs : List Value} (h : Cells w A xs) (n : Nat) : Cells w (A.map (·.add n)) (xs.drop n) := by
  intro j u hj
  rw [List.getElem?_drop] at hj
  obtain ⟨ad, rfl, hc⟩ := h _ u hj
  exact ⟨ad.add n, rfl, by rw [add_add]; exact hc⟩
theorem Cells.take {w : World} {A : Option Addr} {xs : List Value} (h : Cells w A xs) (n : Nat) : Cells w A (xs.take n) := by
  intro j u hj
  rw [List.getElem?_take] at hj
  split at hj
  · exact h j u hj
  · cases hj

/-! ### a row of one's own: a slice that may grow in its block -/

def Row (w : World) (e : TypeId) (size : Nat) (v : Value) (n : Nat) (xs : List Value) : Prop :=
  xs.length = n * size ∧
  ((v = .slice none 0 0 ∧ n = 0) ∨
   ∃ g off cap cur, v = .slice (some ⟨g, off, none⟩) n cap ∧ w.heap[g]? = some (.cells cur e (0, 0)) ∧ n ≤ cap ∧ cap ≤ maxLen ∧ off + cap * size ≤ cur.size ∧ (cur.toList.drop off).take (n * size) = xs)

theorem Row.nil (w : World) (e : TypeId) (size : Nat) : Row w e size (.slice none 0 0) 0 [] := ⟨by simp, .inl ⟨rfl, rfl⟩⟩
theorem Row.move {w w' : World} {e : TypeId} {size : Nat} {v : Value} {n : Nat} {xs : List Value} (h : Row w e size v n xs) (hb : ∀ k, v.ownBlock = some k → w'.heap[k]? = w.heap[k]?) : Row w' e size v n xs := by
  refine ⟨h.1, ?_⟩
  rcases h.2 with h | ⟨g, off, cap, cur, rfl, hg, r⟩
  · exact .inl h
  · exact .inr ⟨g, off, cap, cur, rfl, by rw [hb g rfl]; exact hg, r⟩
theorem Row.lt {w : World} {e : TypeId} {size : Nat} {v : Value} {n : Nat} {xs : List Value} (h : Row w e size v n xs) {k : Nat} (hk : v.ownBlock = some k) : k < w.heap.size := by
  rcases h.2 with ⟨rfl, _⟩ | ⟨g, off, cap, cur, rfl, hg, r⟩
  · simp [Value.ownBlock] at hk
  · simp [Value.ownBlock] at hk; subst hk; exact blk_lt hg
theorem Row.only {S : Nat → Prop} {w w' : World} {e : TypeId} {size : Nat} {v : Value} {n : Nat} {xs : List Value} (h : Row w e size v n xs) (ho : Only S w w') (hn : ∀ k, v.ownBlock = some k → ¬ S k) : Row w' e size v n xs :=
  h.move fun k hk => ho.block k (h.lt hk) (hn k hk)
theorem Row.ext {w w' : World} {e : TypeId} {size : Nat} {v : Value} {n : Nat} {xs : List Value} (h : Row w e size v n xs) (ho : Ext w w') : Row w' e size v n xs := h.only ho fun _ _ => id
theorem Row.slice {w : World} {e : TypeId} {size : Nat} {v : Value} {n : Nat} {xs : List Value} (h : Row w e size v n xs) : ∃ A c, v = .slice A n c ∧ n ≤ c ∧ Cells w A xs := by
  rcases h.2 with ⟨rfl, rfl⟩ | ⟨g, off, cap, cur, rfl, hg, h1, h2, h3, h4⟩
  · have : xs = [] := List.eq_nil_of_length_eq_zero (by simpa using h.1)
    subst this
    exact ⟨none, 0, rfl, Nat.le_refl _, Cells.nil _ _⟩
  · refine ⟨some ⟨g, off, none⟩, cap, rfl, h1, fun j u hj => ⟨_, rfl, ?_⟩⟩
    have hadd : (⟨g, off, none⟩ : Addr).add j = ⟨g, off + j, none⟩ := by unfold Addr.add; split <;> simp_all
    rw [hadd]
    refine cell_get hg ?_
    rw [← h4, List.getElem?_take] at hj
    split at hj
    · rw [List.getElem?_drop] at hj; simpa using hj
    · cases hj

section
variable {P : Program}

theorem run_append_row {w : World} (q0 : Nat) (t tx ty e : TypeId) (i : TypeInfo) (z : Value) (size bytes : Nat) (ht : P.underlying t = some (.slice e)) (hi : P.info? e = some i) (hz : i.zero = some z)
    (hsize : i.size = size) (hby : i.bytes = bytes) (hzs : z.cells.size = size)
    {v : Value} {n : Nat} {xs : List Value} (hr : Row w e size v n xs) {x : Value} {m : Nat} {news : List Value} (hs : Src P size tx x m news (w.drewN q0))
    (h63 : n + m ≤ maxLen) (hbytes : (n + m) * bytes ≤ 140737488355328) :
    ∃ v' w' q, q0 ≤ q ∧ (Builtin.append_ #[t, tx] ty #[v, x]).run P (w.drewN q0) = .ok v' (w'.drewN q) ∧ Row w' e size v' (n + m) (xs ++ news) ∧ Only (fun k => v.ownBlock = some k) w w' ∧
      (v'.ownBlock = v.ownBlock ∨ v'.ownBlock = some w.heap.size) ∧ (v' = .slice none 0 0 ↔ v = .slice none 0 0 ∧ m = 0) := by
  subst hsize
  subst hby
  have hsmall : n + m ≤ 9223372036854775807 := by simp only [maxLen] at h63; omega
  have hlen : (xs ++ news).length = (n + m) * i.size := by rw [List.length_append, hr.1, hs.newsLen, Nat.add_mul]
  have grown : ∀ (old : Nat), old < n + m →
      Row (w.alloc (.cells ((xs ++ news).toArray ++ Builtin.zeroCells z.cells (grownCap (w.drewN q0) (n + m) old e - (n + m))) e)) e i.size
        (.slice (some ⟨w.heap.size, 0, none⟩) (n + m) (grownCap (w.drewN q0) (n + m) old e)) (n + m) (xs ++ news) := by
    intro old ho
    have hge := grownCap_ge (w.drewN q0) (n + m) old e
    have hcm : grownCap (w.drewN q0) (n + m) old e ≤ maxLen := grownCap_le_maxLen (w.drewN q0) (n + m) old e h63
    refine ⟨hlen, .inr ⟨w.heap.size, 0, _, _, rfl, new_get w _, hge, hcm, ?_, ?_⟩⟩
    · simp only [Array.size_append, List.size_toArray, size_zeroCells, hzs, hlen, Nat.zero_add, ← Nat.add_mul]
      exact Nat.mul_le_mul_right _ (by omega)
    · simp only [Array.toList_append, List.drop_zero]
      rw [← hlen]
      exact List.take_left
  have grow : ∀ (base : Option Addr) (sCap : Nat), v = .slice base n sCap → Cells w base xs → sCap < n + m →
      ∃ v' w' q, q0 ≤ q ∧ (Builtin.append_ #[t, tx] ty #[v, x]).run P (w.drewN q0) = .ok v' (w'.drewN q) ∧ Row w' e i.size v' (n + m) (xs ++ news) ∧ Only (fun k => v.ownBlock = some k) w w' ∧
        (v'.ownBlock = v.ownBlock ∨ v'.ownBlock = some w.heap.size) ∧ (v' = .slice none 0 0 ↔ v = .slice none 0 0 ∧ m = 0) := by
    intro base sCap hv hc hlt
    subst hv
    have hold : (Builtin.firstCells i.size n (.slice base n sCap)).run P (w.drewN q0).drew = .ok xs.toArray (w.drewN q0).drew := by
      cases base with
      | none =>
        have : xs = [] := by
          cases xs with
          | nil => rfl
          | cons a r => obtain ⟨_, h, _⟩ := hc 0 a rfl; cases h
        subst this
        exact run_firstCells_none (w.drewN q0).drew i.size n n sCap
      | some ad => exact run_firstCells_some (w.drewN q0).drew i.size n ad n sCap xs hr.1 (by simpa using hc.some)
    have := run_append_grow_src (P := P) (w.drewN q0) t tx ty e i z ht hi hz base n sCap xs hold x m news hs hlt (by omega) (growslice_fits hlt hbytes)
    refine ⟨_, _, q0 + 1, Nat.le_succ _, this, grown sCap hlt, (Ext.alloc w _).only, .inr rfl, ?_⟩
    simp only [Value.slice.injEq, reduceCtorEq, false_and, false_iff, not_and]
    rintro ⟨_, h1, h2⟩ h3
    omega
  rcases hr.2 with ⟨rfl, rfl⟩ | ⟨g, off, cap, cur, rfl, hg, hnc, hcm, hcs, htake⟩
  · have hx : xs = [] := List.eq_nil_of_length_eq_zero (by simpa using hr.1)
    subst hx
    by_cases hm : m = 0
    · subst hm
      have hn : news = [] := List.eq_nil_of_length_eq_zero (by simpa using hs.newsLen)
      subst hn
      refine ⟨.slice none 0 0, w, q0, Nat.le_refl _, ?_, Row.nil w e i.size, Only.refl _ w, .inl rfl, by simp⟩
      rcases hs.kind with ⟨e', hk⟩ | hk <;> simp [Builtin.append_, run_underlying ht, run_underlying hk, sizeOf, typeInfo, hi, hs.len, hs.cells]
    · exact grow none 0 rfl (Cells.nil _ _) (by omega)
  · by_cases hroom : n + m ≤ cap
    · have hfit : off + n * i.size + 0 + news.length ≤ cur.size := by
        rw [hs.newsLen]
        have : (n + m) * i.size ≤ cap * i.size := Nat.mul_le_mul_right _ hroom
        rw [Nat.add_mul] at this
        omega
      have hst := run_storeCells_at P g (off + n * i.size) e news 0 cur (w.drewN q0) hg hfit hs.one
      simp only [Nat.add_zero] at hst
      have hadd : (⟨g, off, none⟩ : Addr).add (n * i.size) = ⟨g, off + n * i.size, none⟩ := by unfold Addr.add; split <;> simp_all
      refine ⟨.slice (some ⟨g, off, none⟩) (n + m) cap, w.setRow g (cur.toList.take (off + n * i.size) ++ news ++ cur.toList.drop (off + n * i.size + news.length)).toArray, q0, Nat.le_refl _, ?_, ⟨hlen, .inr ⟨g, off, cap, _, rfl, setRow_heap w g cur _ e _ hg, hroom, hcm, ?_, ?_⟩⟩, ?_, .inl rfl, by simp⟩
      · generalize (cur.toList.take (off + n * i.size) ++ news ++ cur.toList.drop (off + n * i.size + news.length)).toArray = arr at hst
        rcases hs.kind with ⟨e', hk⟩ | hk <;> simp [Builtin.append_, run_underlying ht, run_underlying hk, sizeOf, typeInfo, hi, hs.len, hroom, hs.cells, hadd, hst] <;> rfl
      · simp only [List.size_toArray, List.length_append, List.length_take, List.length_drop, Array.length_toList]
        omega
      · have h1 : (cur.toList.take (off + n * i.size)).length = off + n * i.size := by
          rw [List.length_take, Array.length_toList]; omega
        have h2 : (cur.toList.take (off + n * i.size)).drop off = xs := by
          rw [List.drop_take, ← htake]; congr 1; omega
        simp only [List.append_assoc]
        rw [List.drop_append_of_le_length (by omega), h2, ← List.append_assoc, ← hlen]
        exact List.take_left
      · exact (Only.setRow w g _).mono fun k _ hk => by simp [Value.ownBlock, hk]
    · obtain ⟨A, c, hv, _, hc⟩ := hr.slice
      simp only [Value.slice.injEq] at hv
      obtain ⟨rfl, _, rfl⟩ := hv
      exact grow _ cap rfl hc (by omega)
end
end Go.Lv
