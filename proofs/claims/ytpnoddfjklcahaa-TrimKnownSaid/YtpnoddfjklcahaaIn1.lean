import Derived.Test.YtpnoddfjklcahaaTr1
import Derived.Test.YtpnoddfjklcahaaLv17
import Derived.Test.YtpnoddfjklcahaaDa9

set_option linter.all false
namespace Go.Proofs.Ytpnoddfjklcahaa
open Go Go.Lv Go.RowKit Go.Shoal


theorem ins_all {α : Type} (E : Enc α) (l : List α) (i : Nat) (x : α) : E.all (insL l i x) = (E.all l).take (i * E.sz) ++ E.enc x ++ (E.all l).drop (i * E.sz) := by
  unfold insL
  rw [E.all_append, E.all_take, ← E.all_drop, List.append_assoc]; rfl
theorem ins_room {a x z : List Value} {p s : Nat} (hx : x.length = s) (hz : z.length = s) (hp : p + s ≤ a.length) :
    (((a ++ z).take (p + s) ++ a.drop p ++ (a ++ z).drop (p + s + (a.drop p).length)).take p ++ x ++ ((a ++ z).take (p + s) ++ a.drop p ++ (a ++ z).drop (p + s + (a.drop p).length)).drop (p + x.length)) = a.take p ++ x ++ a.drop p := by
  have h1 : (a ++ z).drop (p + s + (a.drop p).length) = [] := List.drop_eq_nil_of_le (by simp; omega)
  have h2 : (a ++ z).take (p + s) = a.take (p + s) := List.take_append_of_le_length hp
  rw [h1, h2, List.append_nil]
  congr 1
  · congr 1
    rw [List.take_append_of_le_length (by simp; omega), List.take_take]; congr 1; omega
  · rw [List.drop_append_of_le_length (by simp; omega)]
    rw [List.drop_eq_nil_of_le (by simp; omega), List.nil_append]
theorem ins_grow {a x z : List Value} {p s : Nat} (hx : x.length = s) (hp : p ≤ a.length) (hz : z.length = a.length - p + s) :
    ((a.take p ++ z).take p ++ x ++ (a.take p ++ z).drop (p + x.length)).take (p + s) ++ a.drop p ++ ((a.take p ++ z).take p ++ x ++ (a.take p ++ z).drop (p + x.length)).drop (p + s + (a.drop p).length) = a.take p ++ x ++ a.drop p := by
  have hl : (a.take p).length = p := by simp; omega
  have h1 : (a.take p ++ z).take p = a.take p := by rw [List.take_append_of_le_length (by omega), List.take_of_length_le (by omega)]
  rw [h1]
  have h2 : (a.take p ++ x ++ (a.take p ++ z).drop (p + x.length)).drop (p + s + (a.drop p).length) = [] := List.drop_eq_nil_of_le (by simp; omega)
  have h3 : (a.take p ++ x ++ (a.take p ++ z).drop (p + x.length)).take (p + s) = a.take p ++ x := by
    rw [List.take_append_of_le_length (by simp; omega), List.take_of_length_le (by simp; omega)]
  rw [h2, h3, List.append_nil]

theorem ins_room1 (w : World) (B : Nat) (ad : Addr) (n c : Nat) (l : List En) (hl : l.length = n) (hlen : n ≤ 1000000) (hv : Nw B encEn 51 l (.slice (some ad) n c) w) (i : Nat) (hi : i < n) (q : Nat) (x : En) (hq : w.heap[q]? = some (.cells #[.int .i64 (x.f), .int .u64 ((x.n.toNat : Int)), .int .u64 ((x.t.toNat : Int))] 51 (0, 0))) (hqn : q ≠ ad.block) (hc : n + 1 ≤ c) :
    Fc Try.prog 85 #[.slice (some ad) (n) (c), .int .i64 (i), .slice (some ⟨q, 0, none⟩) (1) (1)] w (fun v w' => Only (fun k => k = ad.block) w w' ∧ NwSl B encEn 51 (insL l i x) v w') := by
  have hl3 : ((encEn).all l).length = n * 3 := by rw [(encEn).all_len, hl]; rfl
  obtain ⟨zs, hzs, hR⟩ := Row.room (m := 1) (show Row w 51 3 (.slice (some ad) n c) n ((encEn).all l) from hl ▸ hv.1) (by omega)
  have hcc : c ≤ maxLen := by obtain ⟨_, _, _, _, _, _, _, h, _⟩ := hR.at; exact h
  simp only [maxLen] at hcc
  have hD : Cells w (some (ad.add (i * 3))) (((encEn).all l).drop (i * 3)) := (Cells.drop (A := some ad) hv.rd (i * 3))
  have hDl : (((encEn).all l).drop (i * 3)).length = (n - i) * 3 := by rw [List.length_drop, hl3]; omega
  refine Fc.enter (args := [.slice (some ad) (n) (c), .int .i64 (i), .slice (some ⟨q, 0, none⟩) (1) (1)]) Try.func85 rfl Try.ntmps85 rfl ?_
  intro K_
  have hO : Only (fun k => k = ad.block) w w := Only.refl _ _
  have hlt_q := blk_lt hq
  refine W.seq ?_
  refine W.region ?_
  refine WL.yield rfl rfl rfl (Yield.assign rfl rfl) ?_
  refine WL.fin ?_
  refine Nm.code ?_
  refine W.seq ?_
  refine W.region ?_
  refine WL.yield rfl rfl rfl (Yield.move rfl rfl) ?_
  refine WL.yield rfl rfl rfl (Yield.move rfl rfl) ?_
  refine WL.yield rfl rfl rfl (Yield.slice rfl rfl rfl rfl Try.runUnderlying39 Try.sizeOf51 rfl rfl (by omega) (by omega) (by omega)) ?_
  refine WL.fin ?_
  refine Nm.code ?_
  refine W.seq ?_
  refine W.region ?_
  refine WL.yield rfl rfl rfl (Yield.move rfl rfl) ?_
  refine WL.yield rfl rfl rfl (Yield.lenSlice rfl rfl Try.runUnderlying39) ?_
  refine WL.yield rfl rfl rfl (Yield.assign rfl rfl) ?_
  refine WL.fin ?_
  refine Nm.code ?_
  refine W.seq ?_
  refine W.seq ?_
  refine W.region ?_
  refine WL.yield rfl rfl rfl (Yield.move rfl rfl) ?_
  refine WL.yield rfl rfl rfl (Yield.ar rfl rfl rfl rfl (bool_false (by omega))) ?_
  refine WL.fin ?_
  refine Nm.code ?_
  refine W.cond_false rfl ?_
  refine W.skipN ?_
  refine Nm.code ?_
  refine W.seq ?_
  refine W.region ?_
  refine WL.yield rfl rfl rfl (Yield.move rfl rfl) ?_
  refine WL.yield rfl rfl rfl (Yield.lenSlice rfl rfl Try.runUnderlying39) ?_
  refine WL.yield rfl rfl rfl (Yield.assign rfl rfl) ?_
  refine WL.fin ?_
  refine Nm.code ?_
  refine W.seq ?_
  refine W.seq ?_
  refine W.region ?_
  refine WL.yield rfl rfl rfl (Yield.move rfl rfl) ?_
  refine WL.yield rfl rfl rfl (Yield.move rfl rfl) ?_
  refine WL.yield rfl rfl rfl (Yield.ar rfl rfl rfl rfl (bool_false (by omega))) ?_
  refine WL.fin ?_
  refine Nm.code ?_
  refine W.cond_false rfl ?_
  refine W.skipN ?_
  refine Nm.code ?_
  refine W.seq ?_
  refine W.seq ?_
  refine W.region ?_
  refine WL.yield rfl rfl rfl (Yield.move rfl rfl) ?_
  refine WL.yield rfl rfl rfl (Yield.move rfl rfl) ?_
  refine WL.yield rfl rfl rfl (Yield.ar (v' := .int .i64 (((n + 1 : Nat) : Int))) rfl rfl rfl rfl (int_eq (by rw [wrap_i64 (by omega) (by omega)]; omega))) ?_
  refine WL.yield rfl rfl rfl (Yield.move rfl rfl) ?_
  refine WL.yield rfl rfl rfl (Yield.capSlice rfl rfl Try.runUnderlying39) ?_
  refine WL.yield rfl rfl rfl (Yield.ar rfl rfl rfl rfl (bool_false (by omega))) ?_
  refine WL.fin ?_
  refine Nm.code ?_
  refine W.cond_false rfl ?_
  refine W.skipN ?_
  refine Nm.code ?_
  refine W.seq ?_
  refine W.region ?_
  refine WL.yield rfl rfl rfl (Yield.move rfl rfl) ?_
  refine WL.yield rfl rfl rfl (Yield.move rfl rfl) ?_
  refine WL.yield rfl rfl rfl (Yield.move rfl rfl) ?_
  refine WL.yield rfl rfl rfl (Yield.ar (v' := .int .i64 (((n + 1 : Nat) : Int))) rfl rfl rfl rfl (int_eq (by rw [wrap_i64 (by omega) (by omega)]; omega))) ?_
  refine WL.yield rfl rfl rfl ((Yield.slice rfl rfl rfl rfl Try.runUnderlying39 Try.sizeOf51 rfl rfl (by omega) (by omega) (by omega)).cast (v' := .slice (some ad) (n + 1) (c)) (slice_val0 (by first | rfl | omega))) ?_
  refine WL.yield rfl rfl rfl (Yield.assign rfl rfl) ?_
  refine WL.fin ?_
  refine Nm.code ?_
  refine W.seq ?_
  refine W.seq ?_
  refine W.region ?_
  refine WL.yield rfl rfl rfl (Yield.move rfl rfl) ?_
  refine WL.yield rfl rfl rfl (Yield.move rfl rfl) ?_
  refine WL.yield rfl rfl rfl (Yield.move rfl rfl) ?_
  refine WL.yield rfl rfl rfl (Yield.move rfl rfl) ?_
  refine WL.yield rfl rfl rfl (Yield.ar (v' := .int .i64 (((i + 1 : Nat) : Int))) rfl rfl rfl rfl (int_eq (by rw [wrap_i64 (by omega) (by omega)]; omega))) ?_
  refine WL.yield rfl rfl rfl ((Yield.slice rfl rfl rfl rfl Try.runUnderlying39 Try.sizeOf51 rfl rfl (by omega) (by omega) (by omega)).cast (v' := .slice (some ((ad).add ((i + 1) * 3))) (n + 1 - (i + 1)) (c - (i + 1))) (slice_val (j := n + 1) (by first | rfl | omega) (by first | rfl | omega) (by omega) (by omega) rfl)) ?_
  have hA := hq
  obtain ⟨g, off, cur, hga, _, hgb, _, _, hgs, _⟩ := hR.at
  refine WL.yield rfl rfl rfl (Yield.overlaps (tS := 39) (tR := 4) rfl rfl rfl Try.func121 (by kernel_rfl) (by kernel_rfl) (by kernel_rfl) (by kernel_rfl) Try.underlying39 Try.sizeOf51 (by show q ≠ _; rw [add_block]; exact hqn) hq (by rw [add_block, hga]; exact hgb) (by omega)) ?_
  refine WL.yield rfl rfl rfl (Yield.not rfl rfl) ?_
  refine WL.fin ?_
  refine Nm.code ?_
  refine W.cond_true rfl ?_
  refine W.seq ?_
  refine W.region_draw 8 (w = ·) rfl Try_follows (by kernel_rfl) (by kernel_rfl) ?_
  refine HT.read (i := 0) (by kernel_rfl) rfl rfl rfl rfl (YC.read (by rintro _ rfl; exact (Yield.move rfl rfl))) ?_
  refine HT.read (i := 1) (by kernel_rfl) rfl rfl rfl rfl (YC.read (by rintro _ rfl; exact (Yield.move rfl rfl))) ?_
  refine HT.read (i := 2) (by kernel_rfl) rfl rfl rfl rfl (YC.read (by rintro _ rfl; exact (Yield.move rfl rfl))) ?_
  refine HT.read (i := 3) (by kernel_rfl) rfl rfl rfl rfl (YC.read (by rintro _ rfl; exact (Yield.ar (v' := .int .i64 (((i + 1 : Nat) : Int))) rfl rfl rfl rfl (int_eq (by rw [wrap_i64 (by omega) (by omega)]; omega))))) ?_
  refine HT.read (i := 4) (by kernel_rfl) rfl rfl rfl rfl (YC.read (by rintro _ rfl; exact ((Yield.slice rfl rfl rfl rfl Try.runUnderlying39 Try.sizeOf51 rfl rfl (by omega) (by omega) (by omega)).cast (v' := .slice (some ((ad).add ((i + 1) * 3))) (n + 1 - (i + 1)) (c - (i + 1))) (slice_val (j := n + 1) (by first | rfl | omega) (by first | rfl | omega) (by omega) (by omega) rfl)))) ?_
  refine HT.read (i := 5) (by kernel_rfl) rfl rfl rfl rfl (YC.read (by rintro _ rfl; exact (Yield.move rfl rfl))) ?_
  refine HT.read (i := 6) (by kernel_rfl) rfl rfl rfl rfl (YC.read (by rintro _ rfl; exact (Yield.move rfl rfl))) ?_
  refine HT.read (i := 7) (by kernel_rfl) rfl rfl rfl rfl (YC.read (by rintro _ rfl; exact ((Yield.slice rfl rfl rfl rfl Try.runUnderlying39 Try.sizeOf51 rfl rfl (by omega) (by omega) (by omega)).cast (v' := .slice (some ((ad).add (i * 3))) (n + 1 - i) (c - i)) (slice_val (j := n + 1) (by first | rfl | omega) (by first | rfl | omega) (by omega) (by omega) rfl)))) ?_
  refine HT.fin (by kernel_rfl) ?_
  rintro _ rfl
  show WL _ _ _ _ _ _ _ _
  refine WL.eff _ rfl rfl (Eff.copyRow (ad := ad) (sz := 3) (n := n + 1) (i := i + 1) (k := n + 1 - (i + 1)) (m := n - i) (news := (((encEn).all l).drop (i * 3))) rfl rfl rfl Try.runUnderlying39 Try.sizeOf51 hR (by omega) (by simp only [Nat.min_def]; split <;> omega) hD hDl (fun v hv => (encEn).all_one l v (List.mem_of_mem_drop hv))) ?_
  rintro _ w1 ⟨ho_w1, hR⟩
  replace hq := ho_w1.get hq (by show ¬ (q = ad.block); omega)
  replace hO := hO.tr ho_w1
  refine WL.fin ?_
  refine Nm.code ?_
  refine W.seq ?_
  refine W.region ?_
  refine WL.yield rfl rfl rfl (Yield.move rfl rfl) ?_
  refine WL.yield rfl rfl rfl (Yield.move rfl rfl) ?_
  refine WL.yield rfl rfl rfl ((Yield.slice rfl rfl rfl rfl Try.runUnderlying39 Try.sizeOf51 rfl rfl (by omega) (by omega) (by omega)).cast (v' := .slice (some ((ad).add (i * 3))) (n + 1 - i) (c - i)) (slice_val (j := n + 1) (by first | rfl | omega) (by first | rfl | omega) (by omega) (by omega) rfl)) ?_
  refine WL.yield rfl rfl rfl (Yield.move rfl rfl) ?_
  refine WL.eff _ rfl rfl (Eff.copyRow (ad := ad) (sz := 3) (n := n + 1) (i := i) (k := n + 1 - i) (m := 1) (news := (encEn).enc x) rfl rfl rfl Try.runUnderlying39 Try.sizeOf51 hR (by omega) (by simp only [Nat.min_def]; split <;> omega) (blk_rd (E := encEn) (l := [x]) hq rfl) (by rfl) (by intro v hv; exact (encEn).one x v hv)) ?_
  rintro _ w2 ⟨ho_w2, hR⟩
  replace hq := ho_w2.get hq (by show ¬ (q = ad.block); omega)
  replace hO := hO.tr ho_w2
  refine WL.fin ?_
  refine Nm.code ?_
  refine W.seq ?_
  refine W.region ?_
  refine WL.yield rfl rfl rfl (Yield.move rfl rfl) ?_
  refine WL.yield rfl rfl rfl (Yield.assign rfl rfl) ?_
  refine WL.fin ?_
  refine Nm.code ?_
  refine W.ret_post (fun _ _ h => h) Try.results85 rfl ?_
  have hfin := ins_room (a := ((encEn).all l)) (x := (encEn).enc x) (z := zs) (p := i * 3) (s := 3) rfl (by rw [hzs]) (by rw [hl3]; omega)
  rw [show (i + 1) * 3 = i * 3 + 3 by omega] at hR
  have hia : ((encEn).all (insL l i x)) = ((encEn).all l).take (i * 3) ++ (encEn).enc x ++ ((encEn).all l).drop (i * 3) := ins_all encEn l i x
  refine ⟨hO, some ad, c, by rw [insL_len, hl]; rfl, by rw [insL_len, hl]; omega, ⟨?_, fun b hb => hv.2 b (by simpa [Value.ownBlock] using hb)⟩⟩
  unfold Own
  rw [insL_len, hl, hia, ← hfin]
  exact hR

theorem ins_grow1 (w : World) (B : Nat) (ad : Addr) (n c : Nat) (l : List En) (hl : l.length = n) (hlen : n ≤ 1000000) (hv : Nw B encEn 51 l (.slice (some ad) n c) w) (i : Nat) (hi : i < n) (q : Nat) (x : En) (hq : w.heap[q]? = some (.cells #[.int .i64 (x.f), .int .u64 ((x.n.toNat : Int)), .int .u64 ((x.t.toNat : Int))] 51 (0, 0))) (hqn : q ≠ ad.block) (hB : B ≤ w.heap.size) (hc : c < n + 1) :
    Fc Try.prog 85 #[.slice (some ad) (n) (c), .int .i64 (i), .slice (some ⟨q, 0, none⟩) (1) (1)] w (fun v w' => Only (fun k => k = ad.block) w w' ∧ NwSl B encEn 51 (insL l i x) v w') := by
  have hl3 : ((encEn).all l).length = n * 3 := by rw [(encEn).all_len, hl]; rfl
  have hT : Cells w (some ad) (((encEn).all l).take (i * 3)) := Cells.take (A := some ad) hv.rd (i * 3)
  have hTl : (((encEn).all l).take (i * 3)).length = i * 3 := by rw [List.length_take, hl3]; omega
  have hD : Cells w (some (ad.add (i * 3))) (((encEn).all l).drop (i * 3)) := (Cells.drop (A := some ad) hv.rd (i * 3))
  have hDl : (((encEn).all l).drop (i * 3)).length = (n - i) * 3 := by rw [List.length_drop, hl3]; omega
  have hcn : n ≤ c := by obtain ⟨_, _, _, _, _, _, h, _⟩ := (show Row w 51 3 (.slice (some ad) n c) n ((encEn).all l) from hl ▸ hv.1).at; exact h
  refine Fc.enter (args := [.slice (some ad) (n) (c), .int .i64 (i), .slice (some ⟨q, 0, none⟩) (1) (1)]) Try.func85 rfl Try.ntmps85 rfl ?_
  intro K_
  have hO : Only (fun k => k = ad.block) w w := Only.refl _ _
  have hlt_q := blk_lt hq
  refine W.seq ?_
  refine W.region ?_
  refine WL.yield rfl rfl rfl (Yield.assign rfl rfl) ?_
  refine WL.fin ?_
  refine Nm.code ?_
  refine W.seq ?_
  refine W.region ?_
  refine WL.yield rfl rfl rfl (Yield.move rfl rfl) ?_
  refine WL.yield rfl rfl rfl (Yield.move rfl rfl) ?_
  refine WL.yield rfl rfl rfl (Yield.slice rfl rfl rfl rfl Try.runUnderlying39 Try.sizeOf51 rfl rfl (by omega) (by omega) (by omega)) ?_
  refine WL.fin ?_
  refine Nm.code ?_
  refine W.seq ?_
  refine W.region ?_
  refine WL.yield rfl rfl rfl (Yield.move rfl rfl) ?_
  refine WL.yield rfl rfl rfl (Yield.lenSlice rfl rfl Try.runUnderlying39) ?_
  refine WL.yield rfl rfl rfl (Yield.assign rfl rfl) ?_
  refine WL.fin ?_
  refine Nm.code ?_
  refine W.seq ?_
  refine W.seq ?_
  refine W.region ?_
  refine WL.yield rfl rfl rfl (Yield.move rfl rfl) ?_
  refine WL.yield rfl rfl rfl (Yield.ar rfl rfl rfl rfl (bool_false (by omega))) ?_
  refine WL.fin ?_
  refine Nm.code ?_
  refine W.cond_false rfl ?_
  refine W.skipN ?_
  refine Nm.code ?_
  refine W.seq ?_
  refine W.region ?_
  refine WL.yield rfl rfl rfl (Yield.move rfl rfl) ?_
  refine WL.yield rfl rfl rfl (Yield.lenSlice rfl rfl Try.runUnderlying39) ?_
  refine WL.yield rfl rfl rfl (Yield.assign rfl rfl) ?_
  refine WL.fin ?_
  refine Nm.code ?_
  refine W.seq ?_
  refine W.seq ?_
  refine W.region ?_
  refine WL.yield rfl rfl rfl (Yield.move rfl rfl) ?_
  refine WL.yield rfl rfl rfl (Yield.move rfl rfl) ?_
  refine WL.yield rfl rfl rfl (Yield.ar rfl rfl rfl rfl (bool_false (by omega))) ?_
  refine WL.fin ?_
  refine Nm.code ?_
  refine W.cond_false rfl ?_
  refine W.skipN ?_
  refine Nm.code ?_
  refine W.seq ?_
  refine W.seq ?_
  refine W.region ?_
  refine WL.yield rfl rfl rfl (Yield.move rfl rfl) ?_
  refine WL.yield rfl rfl rfl (Yield.move rfl rfl) ?_
  refine WL.yield rfl rfl rfl (Yield.ar (v' := .int .i64 (((n + 1 : Nat) : Int))) rfl rfl rfl rfl (int_eq (by rw [wrap_i64 (by omega) (by omega)]; omega))) ?_
  refine WL.yield rfl rfl rfl (Yield.move rfl rfl) ?_
  refine WL.yield rfl rfl rfl (Yield.capSlice rfl rfl Try.runUnderlying39) ?_
  refine WL.yield rfl rfl rfl (Yield.ar rfl rfl rfl rfl (bool_true (by omega))) ?_
  refine WL.fin ?_
  refine Nm.code ?_
  refine W.cond_true rfl ?_
  refine W.seq ?_
  refine W.region ?_
  refine WL.yield rfl rfl rfl (Yield.move rfl rfl) ?_
  refine WL.yield rfl rfl rfl (Yield.move rfl rfl) ?_
  refine WL.yield rfl rfl rfl ((Yield.slice rfl rfl rfl rfl Try.runUnderlying39 Try.sizeOf51 rfl rfl (by omega) (by omega) (by omega)).cast (v' := .slice (some ad) (i) (c)) (slice_val0 (by first | rfl | omega))) ?_
  refine WL.yield rfl rfl rfl (Yield.move rfl rfl) ?_
  refine WL.yield rfl rfl rfl (Yield.move rfl rfl) ?_
  refine WL.yield rfl rfl rfl (Yield.ar (v' := .int .i64 (((n + 1 : Nat) : Int))) rfl rfl rfl rfl (int_eq (by rw [wrap_i64 (by omega) (by omega)]; omega))) ?_
  refine WL.yield rfl rfl rfl (Yield.move rfl rfl) ?_
  refine WL.yield rfl rfl rfl (Yield.ar (v' := .int .i64 (((n + 1 - i : Nat) : Int))) rfl rfl rfl rfl (int_eq (by rw [wrap_i64 (by omega) (by omega)]; omega))) ?_
  refine WL.eff _ rfl rfl (Eff.appendZ (sz := 3) (bytes := 24) (n := i) (k := n + 1 - i) (xs := ((encEn).all l).take (i * 3)) (i := Try.t51) (z := .agg #[.int .i64 (0), .int .u64 (0), .int .u64 (0)]) rfl rfl rfl Try.underlying39 Try.underlying3 (by kernel_rfl) rfl rfl rfl rfl (by decide) hT hTl (by omega) (by omega) (by simp only [maxLen]; omega) (by omega)) ?_
  rintro _ w1 ⟨g, G, zs, rfl, hG1, hG2, hg, ho_w1, hgw, hzs, hR⟩
  have en : i + (n + 1 - i) = n + 1 := by omega
  rw [en] at hR hG1
  rw [en]
  simp only [maxLen] at hG2
  have hgq : q < w.heap.size := blk_lt hq
  have hga : ad.block < w.heap.size := by obtain ⟨g_, off, cur, hga, _, hgb, _⟩ := hv.1.at; rw [hga]; exact blk_lt hgb
  replace hq := ho_w1.get hq
  replace hD := hD.ext ho_w1
  replace hO := hO.ext ho_w1
  refine WL.yield rfl rfl rfl (Yield.assign rfl rfl) ?_
  refine WL.fin ?_
  refine Nm.code ?_
  refine W.seq ?_
  refine W.region ?_
  refine WL.yield rfl rfl rfl (Yield.move rfl rfl) ?_
  refine WL.yield rfl rfl rfl (Yield.move rfl rfl) ?_
  refine WL.yield rfl rfl rfl ((Yield.slice rfl rfl rfl rfl Try.runUnderlying39 Try.sizeOf51 rfl rfl (by omega) (by omega) (by omega)).cast (v' := .slice (some (((⟨g, 0, none⟩ : Addr)).add (i * 3))) (n + 1 - i) (G - i)) (slice_val (j := n + 1) (by first | rfl | omega) (by first | rfl | omega) (by omega) (by omega) rfl)) ?_
  refine WL.yield rfl rfl rfl (Yield.move rfl rfl) ?_
  refine WL.eff _ rfl rfl (Eff.copyRow (ad := (⟨g, 0, none⟩ : Addr)) (sz := 3) (n := n + 1) (i := i) (k := n + 1 - i) (m := 1) (news := (encEn).enc x) rfl rfl rfl Try.runUnderlying39 Try.sizeOf51 hR (by omega) (by simp only [Nat.min_def]; split <;> omega) (blk_rd (E := encEn) (l := [x]) hq rfl) (by rfl) (by intro v hv; exact (encEn).one x v hv)) ?_
  rintro _ w2 ⟨ho_w2, hR⟩
  replace hq := ho_w2.get hq (show ¬ (q = g) by omega)
  replace hD := hD.only ho_w2 (fun ad2 h2 _ => by cases h2; rw [add_block]; show ¬ (ad.block = g); omega)
  replace hO := hO.trans ho_w2 (fun k hk h2 => by exfalso; have h3 : k = g := h2; omega)
  refine WL.fin ?_
  refine Nm.code ?_
  refine W.seq ?_
  refine W.region_draw 8 (w2 = ·) rfl Try_follows (by kernel_rfl) (by kernel_rfl) ?_
  refine HT.read (i := 0) (by kernel_rfl) rfl rfl rfl rfl (YC.read (by rintro _ rfl; exact (Yield.move rfl rfl))) ?_
  refine HT.read (i := 1) (by kernel_rfl) rfl rfl rfl rfl (YC.read (by rintro _ rfl; exact (Yield.move rfl rfl))) ?_
  refine HT.read (i := 2) (by kernel_rfl) rfl rfl rfl rfl (YC.read (by rintro _ rfl; exact (Yield.move rfl rfl))) ?_
  refine HT.read (i := 3) (by kernel_rfl) rfl rfl rfl rfl (YC.read (by rintro _ rfl; exact (Yield.ar (v' := .int .i64 (((i + 1 : Nat) : Int))) rfl rfl rfl rfl (int_eq (by rw [wrap_i64 (by omega) (by omega)]; omega))))) ?_
  refine HT.read (i := 4) (by kernel_rfl) rfl rfl rfl rfl (YC.read (by rintro _ rfl; exact ((Yield.slice rfl rfl rfl rfl Try.runUnderlying39 Try.sizeOf51 rfl rfl (by omega) (by omega) (by omega)).cast (v' := .slice (some (((⟨g, 0, none⟩ : Addr)).add ((i + 1) * 3))) (n + 1 - (i + 1)) (G - (i + 1))) (slice_val (j := n + 1) (by first | rfl | omega) (by first | rfl | omega) (by omega) (by omega) rfl)))) ?_
  refine HT.read (i := 5) (by kernel_rfl) rfl rfl rfl rfl (YC.read (by rintro _ rfl; exact (Yield.move rfl rfl))) ?_
  refine HT.read (i := 6) (by kernel_rfl) rfl rfl rfl rfl (YC.read (by rintro _ rfl; exact (Yield.move rfl rfl))) ?_
  refine HT.read (i := 7) (by kernel_rfl) rfl rfl rfl rfl (YC.read (by rintro _ rfl; exact ((Yield.slice rfl rfl rfl rfl Try.runUnderlying39 Try.sizeOf51 rfl rfl (by omega) (by omega) (by omega)).cast (v' := .slice (some ((ad).add (i * 3))) (n - i) (c - i)) (slice_val (j := n) (by first | rfl | omega) (by first | rfl | omega) (by omega) (by omega) rfl)))) ?_
  refine HT.fin (by kernel_rfl) ?_
  rintro _ rfl
  show WL _ _ _ _ _ _ _ _
  refine WL.eff _ rfl rfl (Eff.copyRow (ad := (⟨g, 0, none⟩ : Addr)) (sz := 3) (n := n + 1) (i := i + 1) (k := n + 1 - (i + 1)) (m := n - i) (news := (((encEn).all l).drop (i * 3))) rfl rfl rfl Try.runUnderlying39 Try.sizeOf51 hR (by omega) (by simp only [Nat.min_def]; split <;> omega) hD hDl (fun v hv => (encEn).all_one l v (List.mem_of_mem_drop hv))) ?_
  rintro _ w3 ⟨ho_w3, hR⟩
  replace hq := ho_w3.get hq (show ¬ (q = g) by omega)
  replace hD := hD.only ho_w3 (fun ad2 h2 _ => by cases h2; rw [add_block]; show ¬ (ad.block = g); omega)
  replace hO := hO.trans ho_w3 (fun k hk h2 => by exfalso; have h3 : k = g := h2; omega)
  refine WL.fin ?_
  refine Nm.code ?_
  refine W.seq ?_
  refine W.region ?_
  refine WL.yield rfl rfl rfl (Yield.move rfl rfl) ?_
  refine WL.yield rfl rfl rfl (Yield.assign rfl rfl) ?_
  refine WL.fin ?_
  refine Nm.code ?_
  refine W.ret_post (fun _ _ h => h) Try.results85 rfl ?_
  have hfin := ins_grow (a := ((encEn).all l)) (x := (encEn).enc x) (z := zs) (p := i * 3) (s := 3) rfl (by rw [hl3]; omega) (by rw [hl3, hzs]; omega)
  rw [show (i + 1) * 3 = i * 3 + 3 by omega] at hR
  have hia : ((encEn).all (insL l i x)) = ((encEn).all l).take (i * 3) ++ (encEn).enc x ++ ((encEn).all l).drop (i * 3) := ins_all encEn l i x
  refine ⟨hO, some ⟨g, 0, none⟩, G, by rw [insL_len, hl]; rfl, by rw [insL_len, hl]; omega, ⟨?_, fun b hb => by simp only [Value.ownBlock, Option.some.injEq] at hb; omega⟩⟩
  unfold Own
  rw [insL_len, hl, hia, ← hfin]
  exact hR

theorem ins_end1 (w : World) (B : Nat) (A : Option Addr) (n c : Nat) (l : List En) (hl : l.length = n) (hlen : n ≤ 1000000) (hv : Nw B encEn 51 l (.slice (A) n c) w) (q : Nat) (x : En) (hq : w.heap[q]? = some (.cells #[.int .i64 (x.f), .int .u64 ((x.n.toNat : Int)), .int .u64 ((x.t.toNat : Int))] 51 (0, 0))) (hB : B ≤ w.heap.size) :
    Fc Try.prog 85 #[.slice (A) (n) (c), .int .i64 (n), .slice (some ⟨q, 0, none⟩) (1) (1)] w (fun v w' => Only (fun k => (Value.slice A n c).ownBlock = some k) w w' ∧ NwSl B encEn 51 (insL l n x) v w') := by
  have hcn : n ≤ c := by obtain ⟨A_, c_, h1, h2, _⟩ := (hl ▸ hv : Nw B encEn 51 l (.slice A l.length c) w).sl; simp only [Value.slice.injEq] at h1; omega
  refine Fc.enter (args := [.slice (A) (n) (c), .int .i64 (n), .slice (some ⟨q, 0, none⟩) (1) (1)]) Try.func85 rfl Try.ntmps85 rfl ?_
  intro K_
  refine W.seq ?_
  refine W.region ?_
  refine WL.yield rfl rfl rfl (Yield.assign rfl rfl) ?_
  refine WL.fin ?_
  refine Nm.code ?_
  refine W.seq ?_
  refine W.region ?_
  refine WL.yield rfl rfl rfl (Yield.move rfl rfl) ?_
  refine WL.yield rfl rfl rfl (Yield.move rfl rfl) ?_
  refine WL.yield rfl rfl rfl (Yield.slice rfl rfl rfl rfl Try.runUnderlying39 Try.sizeOf51 rfl rfl (by omega) (by omega) (by omega)) ?_
  refine WL.fin ?_
  refine Nm.code ?_
  refine W.seq ?_
  refine W.region ?_
  refine WL.yield rfl rfl rfl (Yield.move rfl rfl) ?_
  refine WL.yield rfl rfl rfl (Yield.lenSlice rfl rfl Try.runUnderlying39) ?_
  refine WL.yield rfl rfl rfl (Yield.assign rfl rfl) ?_
  refine WL.fin ?_
  refine Nm.code ?_
  refine W.seq ?_
  refine W.seq ?_
  refine W.region ?_
  refine WL.yield rfl rfl rfl (Yield.move rfl rfl) ?_
  refine WL.yield rfl rfl rfl (Yield.ar rfl rfl rfl rfl (bool_false (by omega))) ?_
  refine WL.fin ?_
  refine Nm.code ?_
  refine W.cond_false rfl ?_
  refine W.skipN ?_
  refine Nm.code ?_
  refine W.seq ?_
  refine W.region ?_
  refine WL.yield rfl rfl rfl (Yield.move rfl rfl) ?_
  refine WL.yield rfl rfl rfl (Yield.lenSlice rfl rfl Try.runUnderlying39) ?_
  refine WL.yield rfl rfl rfl (Yield.assign rfl rfl) ?_
  refine WL.fin ?_
  refine Nm.code ?_
  refine W.seq ?_
  refine W.seq ?_
  refine W.region ?_
  refine WL.yield rfl rfl rfl (Yield.move rfl rfl) ?_
  refine WL.yield rfl rfl rfl (Yield.move rfl rfl) ?_
  refine WL.yield rfl rfl rfl (Yield.ar rfl rfl rfl rfl (bool_true (by omega))) ?_
  refine WL.fin ?_
  refine Nm.code ?_
  refine W.cond_true rfl ?_
  refine W.seq ?_
  refine W.region ?_
  refine WL.yield rfl rfl rfl (Yield.move rfl rfl) ?_
  refine WL.yield rfl rfl rfl (Yield.move rfl rfl) ?_
  refine WL.eff _ rfl rfl (Eff.pushO (E := encEn) (xs := l) (ys := [x]) (bytes := 24) (i := Try.t51) (z := .agg #[.int .i64 (0), .int .u64 (0), .int .u64 (0)]) rfl rfl rfl rfl Try.underlying39 Try.underlying39 (by kernel_rfl) rfl rfl rfl rfl hB (hl ▸ hv) (blk_rd (E := encEn) (l := [x]) hq rfl) rfl (by show (l.length + 1) * _ ≤ _; omega)) ?_
  rintro v_e w1 ⟨hv_e, ho_w1⟩
  refine WL.yield rfl rfl rfl (Yield.assign rfl rfl) ?_
  refine WL.fin ?_
  refine Nm.code ?_
  refine W.ret_post (fun _ _ h => h) Try.results85 rfl ?_
  have hi_ : insL l l.length x = l ++ [x] := by unfold insL; simp
  rw [hl] at hi_
  rw [hi_]
  exact ⟨ho_w1, hv_e.toSl⟩

theorem ins_any (w : World) (B : Nat) (A : Option Addr) (n c : Nat) (l : List En) (hl : l.length = n) (hlen : n ≤ 1000000) (hv : Nw B encEn 51 l (.slice A n c) w) (i : Nat) (hi : i ≤ n) (q : Nat) (x : En) (hq : w.heap[q]? = some (.cells #[.int .i64 (x.f), .int .u64 ((x.n.toNat : Int)), .int .u64 ((x.t.toNat : Int))] 51 (0, 0))) (hqn : (Value.slice A n c).ownBlock ≠ some q) (hB : B ≤ w.heap.size) :
    Fc Try.prog 85 #[.slice A n c, .int .i64 i, .slice (some ⟨q, 0, none⟩) 1 1] w fun v w' => Only (fun k => (Value.slice A n c).ownBlock = some k) w w' ∧ NwSl B encEn 51 (insL l i x) v w' := by
  by_cases hin : i = n
  · subst hin
    exact ins_end1 w B A i c l hl hlen hv q x hq hB
  · have hrd := (hl ▸ hv : Nw B encEn 51 l (.slice A l.length c) w).rd
    obtain ⟨ad, rfl⟩ := hrd.addr (i := i) (by omega)
    have hne : q ≠ ad.block := fun h => hqn (by rw [h]; rfl)
    have hS : ∀ w', Only (fun k => k = ad.block) w w' → Only (fun k => (Value.slice (some ad) n c).ownBlock = some k) w w' := fun w' h => h.mono fun k _ hk => by simp only [Value.ownBlock, Option.some.injEq]; exact hk.symm
    by_cases hc : n + 1 ≤ c
    · exact (ins_room1 w B ad n c l hl hlen hv i (by omega) q x hq hne hc).mono fun v w' h => ⟨hS w' h.1, h.2⟩
    · exact (ins_grow1 w B ad n c l hl hlen hv i (by omega) q x hq hne hB (by omega)).mono fun v w' h => ⟨hS w' h.1, h.2⟩

end Go.Proofs.Ytpnoddfjklcahaa
