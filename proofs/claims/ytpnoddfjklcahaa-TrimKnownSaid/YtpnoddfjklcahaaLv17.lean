import Derived.Test.YtpnoddfjklcahaaLv16
import Derived.Laws.CopyRow
import Derived.Lib.AppendZerosOnto
import Derived.Lib.Overlaps
set_option linter.all false
namespace Go.Lv
open Go.RowKit Go.Lib
section
variable {P : Program} {N K : Nat} {o : Oper} {l : Env} {w : World}

/-- a slice expression's value, by naturals -/
theorem slice_val {ad : Addr} {c q i j n' c' : Nat} {a b : Int} (ha : a = (i : Int)) (hb : b = (j : Int)) (hc : c ≠ i) (hn : j - i = n') (hc' : c - i = c') :
    Value.slice (if c = a.toNat then some ad else (some ad).map (·.add (a.toNat * q))) (b.toNat - a.toNat) (c - a.toNat) = .slice (some (ad.add (i * q))) n' c' := by
  subst ha; subst hb; subst hn; subst hc'
  rw [if_neg (by simpa using hc)]
  simp
theorem slice_val0 {A : Option Addr} {c q j : Nat} {b : Int} (hb : b = (j : Int)) :
    Value.slice (if c = (0 : Int).toNat then A else A.map (·.add ((0 : Int).toNat * q))) (b.toNat - (0 : Int).toNat) (c - (0 : Int).toNat) = .slice A j c := by
  subst hb
  have h0 : ∀ a : Addr, a.add 0 = a := fun a => by simp [Addr.add]
  split
  · simp
  · cases A <;> simp [h0]

theorem Row.at {e : TypeId} {sz : Nat} {ad : Addr} {n c m : Nat} {xs : List Value} (h : Row w e sz (.slice (some ad) n c) m xs) :
    ∃ g off cur, ad = ⟨g, off, none⟩ ∧ m = n ∧ w.heap[g]? = some (.cells cur e (0, 0)) ∧ n ≤ c ∧ c ≤ maxLen ∧ off + c * sz ≤ cur.size ∧ (cur.toList.drop off).take (n * sz) = xs := by
  obtain ⟨h1, h2⟩ := h
  rcases h2 with ⟨h2, _⟩ | ⟨g, off, cap, cur, h2, hg, hnc, hcm, hcs, ht⟩
  · simp at h2
  · simp only [Value.slice.injEq, Option.some.injEq] at h2
    obtain ⟨rfl, rfl, rfl⟩ := h2
    exact ⟨g, off, cur, rfl, rfl, hg, hnc, hcm, hcs, ht⟩

/-- room behind a row's elements -/
theorem Row.room {e : TypeId} {sz : Nat} {ad : Addr} {n c m : Nat} {xs : List Value} (h : Row w e sz (.slice (some ad) n c) n xs) (hm : n + m ≤ c) :
    ∃ zs, zs.length = m * sz ∧ Row w e sz (.slice (some ad) (n + m) c) (n + m) (xs ++ zs) := by
  obtain ⟨g, off, cur, rfl, _, hg, hnc, hcm, hcs, ht⟩ := h.at
  have hle : (n + m) * sz ≤ c * sz := Nat.mul_le_mul_right _ hm
  have hsp : (n + m) * sz = n * sz + m * sz := Nat.add_mul _ _ _
  refine ⟨((cur.toList.drop off).drop (n * sz)).take (m * sz), by simp; omega, ?_, .inr ⟨g, off, c, cur, rfl, hg, hm, hcm, hcs, ?_⟩⟩
  · rw [List.length_append, h.1, List.length_take, List.length_drop, List.length_drop, Array.length_toList]; omega
  · rw [hsp, List.take_add, ht]

theorem take_over {cur xs news : List Value} {off q n : Nat} (h : (cur.drop off).take n = xs) (hq : q + news.length ≤ n) (hc : off + n ≤ cur.length) :
    ((cur.take (off + q) ++ news ++ cur.drop (off + q + news.length)).drop off).take n = xs.take q ++ news ++ xs.drop (q + news.length) := by
  have hA : ((cur.take (off + q)).drop off) = xs.take q := by
    rw [List.drop_take, ← h, List.take_take]
    congr 1; omega
  have hlA : (xs.take q).length = q := by
    rw [← h, List.length_take, List.length_take, List.length_drop]; omega
  rw [List.append_assoc, List.drop_append_of_le_length (by simp; omega), hA, List.append_assoc]
  rw [show n = (xs.take q).length + (n - q) by omega, List.take_length_add_append]
  congr 1
  rw [show n - q = news.length + (n - q - news.length) by omega, List.take_length_add_append]
  congr 1
  rw [← h, List.drop_take, List.drop_drop]
  congr 1
  · omega
  · congr 1; omega

/-- 'copy' into a row of one's own -/
theorem Eff.copyRow {t t' e e' : TypeId} {d s : Operand} {ad sa : Addr} {sz n c i k m m2 c1 c2 : Nat} {xs news : List Value} (hop : o.op = .call { callee := .builtin .copy, args := #[d, s], argTypes := #[t, t'] })
    (hd : evalE l d = some (.slice (some (ad.add (i * sz))) k c1)) (hs : evalE l s = some (.slice (some sa) m2 c2)) (hu : ∀ w, (underlying t).run P w = .ok (.slice e') w) (hz : ∀ w, (sizeOf e').run P w = .ok sz w)
    (hr : Row w e sz (.slice (some ad) n c) n xs) (hk : i + k = n) (hmin : Nat.min m2 k = m) (hsrc : Cells w (some sa) news) (hl : news.length = m * sz) (h1 : ∀ v ∈ news, v.oneCell' = true) :
    Eff P N o l (w = ·) fun _ w1 => Only (· = ad.block) w w1 ∧ Row w1 e sz (.slice (some ad) n c) n (xs.take (i * sz) ++ news ++ xs.drop (i * sz + news.length)) := by
  rintro _ rfl a q hst
  obtain ⟨g, off, cur, rfl, _, hg, hnc, hcm, hcs, ht⟩ := hr.at
  have hadd : (⟨g, off, none⟩ : Addr).add (i * sz) = ⟨g, off + i * sz, none⟩ := by unfold Addr.add; split <;> simp_all
  have hn : n * sz = i * sz + k * sz := by rw [← hk, Nat.add_mul]
  have hmk : m * sz ≤ k * sz := Nat.mul_le_mul_right _ (hmin ▸ Nat.min_le_right _ _)
  have hnc' : n * sz ≤ c * sz := Nat.mul_le_mul_right _ hnc
  have hld : (Builtin.firstCells sz m (.slice (some sa) m2 c2)).run P (w.drewN q) = .ok news.toArray (w.drewN q) := run_firstCells_some (w.drewN q) sz m sa m2 c2 news hl (by simpa using hsrc.some)
  have hstc := run_storeCells_at P g (off + i * sz) e news 0 cur (w.drewN q) hg (by omega) h1
  simp only [Nat.add_zero] at hstc
  rw [hadd] at hd
  refine .inl ⟨goInt m, w.setRow g (cur.toList.take (off + i * sz) ++ news ++ cur.toList.drop (off + i * sz + news.length)).toArray, q, Nat.le_refl _, ?_, Only.setRow w g _, ?_, .inr ⟨g, off, c, _, rfl, setRow_heap w g cur _ e _ hg, hnc, hcm, ?_, ?_⟩⟩
  · have e1 : execOp a.eval o = builtin .copy #[t, t'] o.type (#[d, s].map fun | .const _ => true | _ => false) (#[d, s].map a.eval) := by
      simp only [execOp, hop]; rfl
    have e2 : (#[d, s].map a.eval) = #[.slice (some ⟨g, off + i * sz, none⟩) k c1, .slice (some sa) m2 c2] := by simp [hst.eval hd, hst.eval hs]
    rw [e1, e2]
    simp only [builtin]
    refine run_v ?_
    generalize (cur.toList.take (off + i * sz) ++ news ++ cur.toList.drop (off + i * sz + news.length)).toArray = arr at hstc
    simp [Builtin.copy_, hu _, hz _, Builtin.lenOf, hmin, hld, hstc]
    rfl
  · rw [List.length_append, List.length_append, List.length_take, List.length_drop, hr.1]; omega
  · simp; omega
  · exact take_over ht (by omega) (by rw [Array.length_toList]; omega)

/-- 'append(s, make([]T, k)...)' where there is no room -/
theorem Eff.appendZ {t tx e : TypeId} {s x : Operand} {i : TypeInfo} {z : Value} {kx : IntKind} {sz bytes n c k : Nat} {A : Option Addr} {xs : List Value} (hop : o.op = .call { callee := .builtin .append, args := #[s, x], argTypes := #[t, tx] })
    (hs' : evalE l s = some (.slice A n c)) (hx : evalE l x = some (.int .i64 (k : Int))) (ht : P.underlying t = some (.slice e)) (hk : P.underlying tx = some (.int kx)) (hi : P.info? e = some i) (hz : i.zero = some z) (hsize : i.size = sz) (hby : i.bytes = bytes) (hzs : z.cells.size = sz) (hpos : 0 < sz)
    (hc : Cells w A xs) (hl : xs.length = n * sz) (hg : c < n + k) (hk0 : 0 < k) (h63 : n + k ≤ maxLen) (hb : (n + k) * bytes ≤ 140737488355328) :
    Eff P N o l (w = ·) fun v' w1 => ∃ g G zs, v' = .slice (some ⟨g, 0, none⟩) (n + k) G ∧ n + k ≤ G ∧ G ≤ maxLen ∧ g = w.heap.size ∧ Ext w w1 ∧ g < w1.heap.size ∧ zs.length = k * sz ∧ Row w1 e sz (.slice (some ⟨g, 0, none⟩) (n + k) G) (n + k) (xs ++ zs) := by
  rintro _ rfl a q hst
  subst hsize
  subst hby
  have hold : (Builtin.firstCells i.size n (.slice A n c)).run P (w.drewN q).drew = .ok xs.toArray (w.drewN q).drew := by
    cases A with
    | none =>
      have : xs = [] := by
        cases xs with
        | nil => rfl
        | cons a r => obtain ⟨_, h, _⟩ := hc 0 a rfl; cases h
      subst this
      exact run_firstCells_none (w.drewN q).drew i.size n n c
    | some ad => exact run_firstCells_some (w.drewN q).drew i.size n ad n c xs hl (by simpa using hc.some)
  have hkb : k * i.bytes ≤ (n + k) * i.bytes := Nat.mul_le_mul_right _ (by omega)
  have hrun := Lib.run_append_grow_zeros (P := P) (w.drewN q) t tx o.type e i z .i64 kx ht hk hi hz A n c xs hold k hk0 hpos hg (by simp only [maxLen] at h63; omega) (by omega) (growslice_fits hg hb)
  have hge := grownCap_ge (w.drewN q) (n + k) c e
  have hcm : grownCap (w.drewN q) (n + k) c e ≤ maxLen := grownCap_le_maxLen (w.drewN q) (n + k) c e h63
  have hlen : (xs.toArray ++ Builtin.zeroCells z.cells k).size = (n + k) * i.size := by
    rw [Array.size_append, size_zeroCells, List.size_toArray, hl, hzs, Nat.add_mul]
  refine .inl ⟨_, w.alloc (.cells (xs.toArray ++ Builtin.zeroCells z.cells k ++ Builtin.zeroCells z.cells (grownCap (w.drewN q) (n + k) c e - (n + k))) e), q + 1, Nat.le_succ _, ?_, w.heap.size, _, (Builtin.zeroCells z.cells k).toList, rfl, hge, hcm, rfl, Ext.alloc w _, by rw [alloc_size]; omega, by rw [Array.length_toList, size_zeroCells, hzs], ?_, .inr ⟨w.heap.size, 0, _, _, rfl, new_get w _, hge, hcm, ?_, ?_⟩⟩
  · have e1 : execOp a.eval o = builtin .append #[t, tx] o.type (#[s, x].map fun | .const _ => true | _ => false) (#[s, x].map a.eval) := by
      simp only [execOp, hop]; rfl
    have e2 : (#[s, x].map a.eval) = #[.slice A n c, .int .i64 (k : Int)] := by simp [hst.eval hs', hst.eval hx]
    rw [e1, e2]
    simp only [builtin]
    exact run_v hrun
  · rw [List.length_append, hl, Array.length_toList, size_zeroCells, hzs, Nat.add_mul]
  · simp only [Array.size_append, List.size_toArray, size_zeroCells, hzs, hl, Nat.zero_add, ← Nat.add_mul]
    exact Nat.mul_le_mul_right _ (by omega)
  · simp only [Array.toList_append, List.drop_zero]
    have : (xs ++ (Builtin.zeroCells z.cells k).toList).length = (n + k) * i.size := by
      rw [List.length_append, hl, Array.length_toList, size_zeroCells, hzs, Nat.add_mul]
    rw [← this]
    exact List.take_left

/-- slices.overlaps of rows in two blocks -/
theorem Yield.overlaps {f : FuncId} {fn : Func} {x y : Operand} {ts : Array TypeId} {tS tR e TA TB : TypeId} {a b : Addr} {la ca lb cb sz : Nat} {ka kb : Array Value} (hop : o.op = .call { callee := .value (.func f), args := #[x, y], argTypes := ts })
    (hx : evalE l x = some (.slice (some a) la ca)) (hy : evalE l y = some (.slice (some b) lb cb)) (hf : P.funcs[f]? = some fn) (hname : (fn.name == "runtime.NumGoroutine") = false) (hb : fn.body.isNone = true) (hn : Extern.findNext fn = none)
    (he : Extern.find fn = some (Extern.SlicesOverlaps.overlaps #[tS, tS] #[tR])) (ht : P.underlying tS = some (.slice e)) (hz : ∀ w, (sizeOf e).run P w = .ok sz w) (hne : a.block ≠ b.block) (hA : w.heap[a.block]? = some (.cells ka TA (0, 0))) (hB : w.heap[b.block]? = some (.cells kb TB (0, 0))) (hkb : kb.size ≠ 0) :
    Yield P N o l w (.bool false) := by
  intro ac n hs
  have hrun : (callFunc f #[.slice (some a) la ca, .slice (some b) lb cb]).run P (w.drewN n) = .ok (.value (.bool false)) (w.drewN n) := by
    rw [run_callFunc_extern hf hname hb hn he,
      Lib.run_overlaps_apart (P := P) (w.drewN n) tS tR e ht sz hz a b la ca lb cb hne TA TB ka.size kb.size (by show w.shape? a.block = _; simp [World.shape?, hA]) (by show w.shape? b.block = _; simp [World.shape?, hB]) hkb
        (by show w.frozen? a = _; simp [World.frozen?, hA]) (by show w.frozen? _ = _; simp [World.frozen?, hA])]
    rfl
  simp only [execOp, hop]
  rw [resolve_func (fi := #[]) (ca := #[]) (f := f) rfl rfl]
  simp only [List.map_toArray, List.map_cons, List.map_nil, hs.eval hx, hs.eval hy]
  simp [invoke, hrun]

/-- what is behind a place -/
theorem drop_rd {α : Type} {E : Enc α} {A : Option Addr} {c q : Nat} {l : List α} (hc : l.length ≤ c) (hr : Rd E w A l) (i : Nat) (hi : i ≤ l.length) (hq : E.sz = q) :
    ∃ A', Value.slice (if c = ((i : Nat) : Int).toNat then A else A.map (·.add (((i : Nat) : Int).toNat * q))) (((l.length : Nat) : Int).toNat - ((i : Nat) : Int).toNat) (c - ((i : Nat) : Int).toNat) = .slice A' (l.drop i).length (c - i) ∧ (l.drop i).length ≤ c - i ∧ Rd E w A' (l.drop i) := by
  subst hq
  refine ⟨if c = i then A else A.map (·.add (i * E.sz)), by simp only [Int.toNat_natCast, List.length_drop], by rw [List.length_drop]; omega, ?_⟩
  split
  · rw [List.drop_eq_nil_of_le (by omega)]; exact Rd.nil E w A
  · exact hr.drop i

/-- append to a row of one's own; and which blocks it is not in -/
theorem Eff.pushD {α : Type} {E : Enc α} {B : Nat} {t tx e e' : TypeId} {s x : Operand} {i : TypeInfo} {z : Value} {bytes : Nat} {v : Value} {A : Option Addr} {m c : Nat} {xs ys : List α} (hop : o.op = .call { callee := .builtin .append, args := #[s, x], argTypes := #[t, tx] })
    (hs' : evalE l s = some v) (hx : evalE l x = some (.slice A m c)) (hm : ys.length = m) (ht : P.underlying t = some (.slice e)) (hk : P.underlying tx = some (.slice e')) (hi : P.info? e = some i) (hz : i.zero = some z) (hsize : i.size = E.sz) (hby : i.bytes = bytes) (hzs : z.cells.size = E.sz)
    (hB : B ≤ w.heap.size) (hr : Nw B E e xs v w) (hsrc : Rd E w A ys) (hbp : Nat.blt 0 bytes = true) (hbound : (xs.length + ys.length) * bytes ≤ 140737488355328) :
    Eff P N o l (w = ·) fun v' w1 => Nw B E e (xs ++ ys) v' w1 ∧ Only (fun k => v.ownBlock = some k) w w1 ∧ ∀ q, q < w.heap.size → v.ownBlock ≠ some q → v'.ownBlock ≠ some q := by
  subst hm
  have hle : xs.length + ys.length ≤ (xs.length + ys.length) * bytes := Nat.le_mul_of_pos_right _ (by simpa [Nat.blt_eq] using hbp)
  refine (Eff.append hop hs' hx ht hi hz hsize hby hzs (C := (w = ·)) (xs := E.all xs) (news := E.all ys) (n := xs.length) (m := ys.length) (by rintro _ rfl; exact hr.1)
    (by rintro _ rfl; exact src_cells hk (E.all_len ys) E.pos hsrc (E.all_one ys)) (by simp only [maxLen]; omega) hbound).mono ?_
  rintro v' w1 ⟨_, rfl, h1, h2, h3, _⟩
  refine ⟨⟨?_, fun b hb => ?_⟩, h2, fun q hq hn => ?_⟩
  · unfold Own
    rw [List.length_append, E.all_append]; exact h1
  · rcases h3 with h | h
    · rw [h] at hb; exact hr.2 b hb
    · rw [h] at hb; cases hb; exact hB
  · rcases h3 with h | h
    · rw [h]; exact hn
    · rw [h]; intro e; cases e; exact Nat.lt_irrefl _ hq

/-- an element of a row of one's own is written, whole -/
theorem Enc.all_setAt {α : Type} (E : Enc α) : ∀ (l : List α) (i : Nat) (y : α), i < l.length → E.all (l.set i y) = (E.all l).take (i * E.sz) ++ E.enc y ++ (E.all l).drop (i * E.sz + E.sz)
  | [], _, _, h => by simp at h
  | z :: r, 0, y, _ => by
    show E.enc y ++ E.all r = _
    have e : E.all (z :: r) = E.enc z ++ E.all r := rfl
    rw [e]
    simp [← E.len z]
  | z :: r, i + 1, y, h => by
    have ih := E.all_setAt r i y (by simpa using h)
    show E.enc z ++ E.all (r.set i y) = _
    have e : E.all (z :: r) = E.enc z ++ E.all r := rfl
    have hl := E.len z
    rw [e, ih, Nat.add_mul, Nat.one_mul]
    rw [show i * E.sz + E.sz = (E.enc z).length + i * E.sz by rw [hl]; omega, List.take_length_add_append]
    rw [show (E.enc z).length + i * E.sz + E.sz = (E.enc z).length + (i * E.sz + E.sz) by omega, List.drop_length_add_append]
    rw [show (E.enc z).length + i * E.sz = i * E.sz + E.sz by rw [hl]; omega]
    simp [List.append_assoc]
theorem Eff.setElem {α : Type} {E : Enc α} {B : Nat} {t e : TypeId} {x y : Operand} {ad : Addr} {n c i q : Nat} {ls : List α} {b : α} (hop : o.op = .store t x y) (hx : evalE l x = some (.pointer (some (ad.add (i * E.sz))))) (hy : evalE l y = some (.agg (E.enc b).toArray)) (hz : ∀ w, (sizeOf t).run P w = .ok q w) (hq : E.sz = q)
    (hr : Nw B E e ls (.slice (some ad) n c) w) (hi : i < ls.length) :
    Eff P N o l (w = ·) fun _ w1 => Only (· = ad.block) w w1 ∧ B ≤ ad.block ∧ Nw B E e (ls.set i b) (.slice (some ad) n c) w1 := by
  subst hq
  obtain ⟨g, off, cur, rfl, hn, hg, hnc, hcm, hcs, htake⟩ := hr.1.at
  subst hn
  have hadd : (⟨g, off, none⟩ : Addr).add (i * E.sz) = ⟨g, off + i * E.sz, none⟩ := by unfold Addr.add; split <;> simp_all
  rw [hadd] at hx
  have hpos : i * E.sz + E.sz ≤ ls.length * E.sz := by
    have : (i + 1) * E.sz ≤ ls.length * E.sz := Nat.mul_le_mul_right _ hi
    rw [Nat.add_mul] at this; omega
  have hcap : ls.length * E.sz ≤ c * E.sz := Nat.mul_le_mul_right _ hnc
  refine (Eff.storeAgg hop hx hy (by rw [E.len]; exact hz) (E.one b) (C := (w = ·)) (by rintro _ rfl; exact ⟨_, _, hg, by rw [E.len]; omega⟩)).mono ?_
  rintro _ _ ⟨_, cs2, T2, rfl, hb2, _, rfl⟩
  have e0 : some (Obj.cells cs2 T2 (0, 0)) = some (Obj.cells cur e (0, 0)) := hb2.symm.trans hg
  simp only [Option.some.injEq, Obj.cells.injEq] at e0
  obtain ⟨rfl, rfl, _⟩ := e0
  refine ⟨Only.setRow _ _ _, hr.2 g rfl, ⟨?_, fun p hp => hr.2 p hp⟩⟩
  refine ⟨E.all_len _, .inr ⟨g, off, c, _, by rw [List.length_set], setRow_heap _ g _ _ _ _ hg, by rw [List.length_set]; exact hnc, hcm, ?_, ?_⟩⟩
  · simp only [List.size_toArray, List.length_append, List.length_take, List.length_drop, Array.length_toList, E.len]; omega
  · rw [List.length_set, E.all_setAt ls i b hi]
    have := take_over (news := E.enc b) (q := i * E.sz) htake (by rw [E.len]; omega) (by have := Array.length_toList (xs := cs2); omega)
    rw [E.len] at this ⊢
    exact this

end
end Go.Lv
