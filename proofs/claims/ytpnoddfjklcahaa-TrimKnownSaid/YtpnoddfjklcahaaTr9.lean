import Derived.Test.YtpnoddfjklcahaaTr3
import Derived.Test.YtpnoddfjklcahaaPn1
import Derived.Test.YtpnoddfjklcahaaDa7

set_option linter.all false
namespace Go.Proofs.Ytpnoddfjklcahaa
open Go Go.Lv Go.RowKit Go.Shoal


theorem rmay_any (w : World) (x : En) :
    Fc Try.prog 83 #[.agg #[.int .i64 (x.f), .int .u64 ((x.n.toNat : Int)), .int .u64 ((x.t.toNat : Int))]] w (fun v w' => Ext w w' ∧ v = .bool (may x)) := by
  refine Fc.enter (args := [.agg #[.int .i64 (x.f), .int .u64 ((x.n.toNat : Int)), .int .u64 ((x.t.toNat : Int))]]) Try.func83 rfl Try.ntmps83 rfl ?_
  intro K_
  have hO : Only (fun _ => False) w w := Only.refl _ _
  refine W.seq ?_
  refine W.region ?_
  refine WL.eff _ rfl rfl (Eff.box rfl rfl) ?_
  rintro _ w1 ⟨_, b1, rfl, hs_b1, rfl, he_w1⟩
  have hb_b1 : w1.heap[b1]? = some (.cells #[.int .i64 (x.f), .int .u64 ((x.n.toNat : Int)), .int .u64 ((x.t.toNat : Int))] 66 (0, 0)) := by rw [he_w1, hs_b1]; exact new_get _ _
  have ho_w1 : Ext w w1 := by rw [he_w1]; exact Ext.alloc _ _
  clear he_w1
  have hn_b1 : w.heap.size ≤ b1 := by rw [hs_b1]; exact hO.size
  replace hO := hO.ext ho_w1
  refine WL.yield rfl rfl rfl (Yield.assign rfl rfl) ?_
  refine WL.fin ?_
  refine Nm.code ?_
  refine W.seq ?_
  refine W.region ?_
  refine WL.yield rfl rfl rfl (Yield.fieldAt (k := 0) rfl rfl Try.runUnderlying66 rfl Try.sizeOf3 rfl) ?_
  refine WL.yield rfl rfl rfl (Yield.load (v := .int .i64 (x.f)) rfl rfl Try.isAgg3 (cell_get hb_b1 rfl)) ?_
  refine WL.yield rfl rfl rfl (Yield.ar (v' := .bool (decide (x.f ≥ 0))) rfl rfl rfl rfl (bool_dec (by omega))) ?_
  refine WL.yield rfl rfl rfl (Yield.move rfl rfl) ?_
  by_cases h1 : x.f ≥ 0
  · rw [decide_eq_true h1]
    refine WL.yield_g rfl rfl rfl (Yield.fieldAt (k := 0) rfl rfl Try.runUnderlying66 rfl Try.sizeOf3 rfl) ?_
    refine WL.yield_g rfl rfl rfl (Yield.load (v := .int .i64 (x.f)) rfl rfl Try.isAgg3 (cell_get hb_b1 rfl)) ?_
    refine WL.yield_g rfl rfl rfl (Yield.ar (v' := .bool (decide (x.f ≤ 15))) rfl rfl rfl rfl (bool_dec (by omega))) ?_
    refine WL.yield rfl rfl rfl (Yield.pick_t rfl rfl rfl) ?_
    refine WL.yield rfl rfl rfl (Yield.move rfl rfl) ?_
    by_cases h2 : x.f ≤ 15
    · rw [decide_eq_true h2]
      refine WL.yield_g rfl rfl rfl (Yield.fieldAt (k := 1) rfl rfl Try.runUnderlying66 rfl Try.sizeOf32 rfl) ?_
      refine WL.yield_g rfl rfl rfl (Yield.load (v := .int .u64 ((x.n.toNat : Int))) rfl rfl Try.isAgg32 (cell_get hb_b1 rfl)) ?_
      refine WL.yield_g rfl rfl rfl (Yield.ar (v' := .bool (decide (x.n.toNat ≥ 1))) rfl rfl rfl rfl (bool_dec (by omega))) ?_
      refine WL.yield rfl rfl rfl (Yield.pick_t rfl rfl rfl) ?_
      refine WL.yield rfl rfl rfl (Yield.move rfl rfl) ?_
      by_cases h3 : x.n.toNat ≥ 1
      · rw [decide_eq_true h3]
        refine WL.yield_g rfl rfl rfl (Yield.fieldAt (k := 2) rfl rfl Try.runUnderlying66 rfl Try.sizeOf32 rfl) ?_
        refine WL.yield_g rfl rfl rfl (Yield.load (v := .int .u64 ((x.t.toNat : Int))) rfl rfl Try.isAgg32 (cell_get hb_b1 rfl)) ?_
        refine WL.yield_g rfl rfl rfl (Yield.ar (v' := .bool (decide (x.t.toNat ≤ 65535))) rfl rfl rfl rfl (bool_dec (by omega))) ?_
        refine WL.yield rfl rfl rfl (Yield.pick_t rfl rfl rfl) ?_
        refine WL.yield rfl rfl rfl (Yield.assign rfl rfl) ?_
        refine WL.fin ?_
        refine Nm.code ?_
        refine W.ret_post (fun _ _ h => h) Try.results83 rfl ?_
        exact ⟨hO, bool_eq (by rw [may_eq]; simp [*])⟩
      · rw [decide_eq_false h3]
        refine WL.skip_g rfl rfl rfl ?_
        refine WL.skip_g rfl rfl rfl ?_
        refine WL.skip_g rfl rfl rfl ?_
        refine WL.yield rfl rfl rfl (Yield.pick_f rfl rfl rfl) ?_
        refine WL.yield rfl rfl rfl (Yield.assign rfl rfl) ?_
        refine WL.fin ?_
        refine Nm.code ?_
        refine W.ret_post (fun _ _ h => h) Try.results83 rfl ?_
        exact ⟨hO, bool_eq (by rw [may_eq]; simp [*])⟩
    · rw [decide_eq_false h2]
      refine WL.skip_g rfl rfl rfl ?_
      refine WL.skip_g rfl rfl rfl ?_
      refine WL.skip_g rfl rfl rfl ?_
      refine WL.yield rfl rfl rfl (Yield.pick_f rfl rfl rfl) ?_
      refine WL.yield rfl rfl rfl (Yield.move rfl rfl) ?_
      refine WL.skip_g rfl rfl rfl ?_
      refine WL.skip_g rfl rfl rfl ?_
      refine WL.skip_g rfl rfl rfl ?_
      refine WL.yield rfl rfl rfl (Yield.pick_f rfl rfl rfl) ?_
      refine WL.yield rfl rfl rfl (Yield.assign rfl rfl) ?_
      refine WL.fin ?_
      refine Nm.code ?_
      refine W.ret_post (fun _ _ h => h) Try.results83 rfl ?_
      exact ⟨hO, bool_eq (by rw [may_eq]; simp [*])⟩
  · rw [decide_eq_false h1]
    refine WL.skip_g rfl rfl rfl ?_
    refine WL.skip_g rfl rfl rfl ?_
    refine WL.skip_g rfl rfl rfl ?_
    refine WL.yield rfl rfl rfl (Yield.pick_f rfl rfl rfl) ?_
    refine WL.yield rfl rfl rfl (Yield.move rfl rfl) ?_
    refine WL.skip_g rfl rfl rfl ?_
    refine WL.skip_g rfl rfl rfl ?_
    refine WL.skip_g rfl rfl rfl ?_
    refine WL.yield rfl rfl rfl (Yield.pick_f rfl rfl rfl) ?_
    refine WL.yield rfl rfl rfl (Yield.move rfl rfl) ?_
    refine WL.skip_g rfl rfl rfl ?_
    refine WL.skip_g rfl rfl rfl ?_
    refine WL.skip_g rfl rfl rfl ?_
    refine WL.yield rfl rfl rfl (Yield.pick_f rfl rfl rfl) ?_
    refine WL.yield rfl rfl rfl (Yield.assign rfl rfl) ?_
    refine WL.fin ?_
    refine Nm.code ?_
    refine W.ret_post (fun _ _ h => h) Try.results83 rfl ?_
    exact ⟨hO, bool_eq (by rw [may_eq]; simp [*])⟩

theorem rahead_any (w : World) (a b : En) :
    Fc Try.prog 84 #[.agg #[.int .i64 (a.f), .int .u64 ((a.n.toNat : Int)), .int .u64 ((a.t.toNat : Int))], .agg #[.int .i64 (b.f), .int .u64 ((b.n.toNat : Int)), .int .u64 ((b.t.toNat : Int))]] w (fun v w' => Ext w w' ∧ v = .bool (decide (ord a b < 0))) := by
  refine Fc.enter (args := [.agg #[.int .i64 (a.f), .int .u64 ((a.n.toNat : Int)), .int .u64 ((a.t.toNat : Int))], .agg #[.int .i64 (b.f), .int .u64 ((b.n.toNat : Int)), .int .u64 ((b.t.toNat : Int))]]) Try.func84 rfl Try.ntmps84 rfl ?_
  intro K_
  have hO : Only (fun _ => False) w w := Only.refl _ _
  refine W.seq ?_
  refine W.region ?_
  refine WL.eff _ rfl rfl (Eff.box rfl rfl) ?_
  rintro _ w1 ⟨_, b1, rfl, hs_b1, rfl, he_w1⟩
  have hb_b1 : w1.heap[b1]? = some (.cells #[.int .i64 (a.f), .int .u64 ((a.n.toNat : Int)), .int .u64 ((a.t.toNat : Int))] 66 (0, 0)) := by rw [he_w1, hs_b1]; exact new_get _ _
  have ho_w1 : Ext w w1 := by rw [he_w1]; exact Ext.alloc _ _
  clear he_w1
  have hn_b1 : w.heap.size ≤ b1 := by rw [hs_b1]; exact hO.size
  replace hO := hO.ext ho_w1
  refine WL.eff _ rfl rfl (Eff.box rfl rfl) ?_
  rintro _ w2 ⟨_, b2, rfl, hs_b2, rfl, he_w2⟩
  have hb_b2 : w2.heap[b2]? = some (.cells #[.int .i64 (b.f), .int .u64 ((b.n.toNat : Int)), .int .u64 ((b.t.toNat : Int))] 66 (0, 0)) := by rw [he_w2, hs_b2]; exact new_get _ _
  have ho_w2 : Ext w1 w2 := by rw [he_w2]; exact Ext.alloc _ _
  clear he_w2
  have hn_b2 : w.heap.size ≤ b2 := by rw [hs_b2]; exact hO.size
  have hq_b1_b2 : b1 < b2 := by rw [hs_b2]; exact blk_lt hb_b1
  replace hb_b1 := ho_w2.get hb_b1
  replace hO := hO.ext ho_w2
  refine WL.yield rfl rfl rfl (Yield.assign rfl rfl) ?_
  refine WL.fin ?_
  refine Nm.code ?_
  refine W.seq ?_
  refine W.region ?_
  refine WL.yield rfl rfl rfl (Yield.fieldAt (k := 0) rfl rfl Try.runUnderlying66 rfl Try.sizeOf3 rfl) ?_
  refine WL.yield rfl rfl rfl (Yield.load (v := .int .i64 (a.f)) rfl rfl Try.isAgg3 (cell_get hb_b1 rfl)) ?_
  refine WL.yield rfl rfl rfl (Yield.fieldAt (k := 0) rfl rfl Try.runUnderlying66 rfl Try.sizeOf3 rfl) ?_
  refine WL.yield rfl rfl rfl (Yield.load (v := .int .i64 (b.f)) rfl rfl Try.isAgg3 (cell_get hb_b2 rfl)) ?_
  refine WL.yield rfl rfl rfl (Yield.ar (v' := .bool (decide (a.f < b.f))) rfl rfl rfl rfl (bool_dec (by omega))) ?_
  refine WL.yield rfl rfl rfl (Yield.move rfl rfl) ?_
  by_cases h1 : a.f < b.f
  · rw [decide_eq_true h1]
    refine WL.skip_g rfl rfl rfl ?_
    refine WL.skip_g rfl rfl rfl ?_
    refine WL.skip_g rfl rfl rfl ?_
    refine WL.skip_g rfl rfl rfl ?_
    refine WL.skip_g rfl rfl rfl ?_
    refine WL.skip_g rfl rfl rfl ?_
    refine WL.skip_g rfl rfl rfl ?_
    refine WL.skip_g rfl rfl rfl ?_
    refine WL.skip_g rfl rfl rfl ?_
    refine WL.skip_g rfl rfl rfl ?_
    refine WL.skip_g rfl rfl rfl ?_
    refine WL.skip_g rfl rfl rfl ?_
    refine WL.yield rfl rfl rfl (Yield.pick_t rfl rfl rfl) ?_
    refine WL.yield rfl rfl rfl (Yield.assign rfl rfl) ?_
    refine WL.fin ?_
    refine Nm.code ?_
    refine W.ret_post (fun _ _ h => h) Try.results84 rfl ?_
    exact ⟨hO, bool_eq (by first | exact (decide_eq_true (ord_lt.2 (by omega))).symm | exact (decide_eq_false (fun h => by have := ord_lt.1 h; omega)).symm | exact decide_eq_decide.2 (by rw [ord_lt]; omega))⟩
  · rw [decide_eq_false h1]
    refine WL.yield_g rfl rfl rfl (Yield.fieldAt (k := 0) rfl rfl Try.runUnderlying66 rfl Try.sizeOf3 rfl) ?_
    refine WL.yield_g rfl rfl rfl (Yield.load (v := .int .i64 (a.f)) rfl rfl Try.isAgg3 (cell_get hb_b1 rfl)) ?_
    refine WL.yield_g rfl rfl rfl (Yield.fieldAt (k := 0) rfl rfl Try.runUnderlying66 rfl Try.sizeOf3 rfl) ?_
    refine WL.yield_g rfl rfl rfl (Yield.load (v := .int .i64 (b.f)) rfl rfl Try.isAgg3 (cell_get hb_b2 rfl)) ?_
    refine WL.yield_g rfl rfl rfl (Yield.ar (v' := .bool (decide (a.f = b.f))) rfl rfl rfl rfl (bool_dec (Iff.rfl))) ?_
    refine WL.yield_g rfl rfl rfl (Yield.move rfl rfl) ?_
    by_cases h2 : a.f = b.f
    · rw [decide_eq_true h2]
      refine WL.yield_g rfl rfl rfl (Yield.fieldAt (k := 1) rfl rfl Try.runUnderlying66 rfl Try.sizeOf32 rfl) ?_
      refine WL.yield_g rfl rfl rfl (Yield.load (v := .int .u64 ((a.n.toNat : Int))) rfl rfl Try.isAgg32 (cell_get hb_b1 rfl)) ?_
      refine WL.yield_g rfl rfl rfl (Yield.fieldAt (k := 1) rfl rfl Try.runUnderlying66 rfl Try.sizeOf32 rfl) ?_
      refine WL.yield_g rfl rfl rfl (Yield.load (v := .int .u64 ((b.n.toNat : Int))) rfl rfl Try.isAgg32 (cell_get hb_b2 rfl)) ?_
      refine WL.yield_g rfl rfl rfl (Yield.ar (v' := .bool (decide (a.n.toNat < b.n.toNat))) rfl rfl rfl rfl (bool_dec (by omega))) ?_
      refine WL.yield_g rfl rfl rfl (Yield.pick_t rfl rfl rfl) ?_
      refine WL.yield rfl rfl rfl (Yield.pick_f rfl rfl rfl) ?_
      refine WL.yield rfl rfl rfl (Yield.assign rfl rfl) ?_
      refine WL.fin ?_
      refine Nm.code ?_
      refine W.ret_post (fun _ _ h => h) Try.results84 rfl ?_
      exact ⟨hO, bool_eq (by first | exact (decide_eq_true (ord_lt.2 (by omega))).symm | exact (decide_eq_false (fun h => by have := ord_lt.1 h; omega)).symm | exact decide_eq_decide.2 (by rw [ord_lt]; omega))⟩
    · rw [decide_eq_false h2]
      refine WL.skip_g rfl rfl rfl ?_
      refine WL.skip_g rfl rfl rfl ?_
      refine WL.skip_g rfl rfl rfl ?_
      refine WL.skip_g rfl rfl rfl ?_
      refine WL.skip_g rfl rfl rfl ?_
      refine WL.yield_g rfl rfl rfl (Yield.pick_f rfl rfl rfl) ?_
      refine WL.yield rfl rfl rfl (Yield.pick_f rfl rfl rfl) ?_
      refine WL.yield rfl rfl rfl (Yield.assign rfl rfl) ?_
      refine WL.fin ?_
      refine Nm.code ?_
      refine W.ret_post (fun _ _ h => h) Try.results84 rfl ?_
      exact ⟨hO, bool_eq (by first | exact (decide_eq_true (ord_lt.2 (by omega))).symm | exact (decide_eq_false (fun h => by have := ord_lt.1 h; omega)).symm | exact decide_eq_decide.2 (by rw [ord_lt]; omega))⟩

theorem rgood_any (w : World) (A : Option Addr) (c : Nat) (l : List En) (hr : Rd encEn w A l) (hlen : l.length ≤ 4611686018427387904) :
    Fc Try.prog 34 #[.slice (A) (l.length) (c)] w (fun v w' => Ext w w' ∧ v = .bool (good l)) := by
  refine Fc.enter (args := [.slice (A) (l.length) (c)]) Try.func34 rfl Try.ntmps34 rfl ?_
  intro K_
  have hO : Only (fun _ => False) w w := Only.refl _ _
  refine W.seq ?_
  refine W.region ?_
  refine WL.yield rfl rfl rfl (Yield.assign rfl rfl) ?_
  refine WL.fin ?_
  refine Nm.code ?_
  refine W.seq ?_
  refine W.seq ?_
  refine W.region ?_
  refine WL.yield rfl rfl rfl (Yield.assign rfl rfl) ?_
  refine WL.fin ?_
  refine Nm.code ?_
  refine W.block ?_
  have hz_w := hO.size
  refine W.loop (σ := Nat) (fun i => [(0, .slice (A) (l.length) (c)), (3, .int .i64 (i)), (2, .bool false)]) (fun i ww => ((i ≤ l.length ∧ goodP (prevO l i) (l.drop i) = goodP none l) ∧ Ext w ww)) (fun i => (l.length - i)) 0 (Env.has_cons rfl (Env.has_cons rfl (Env.has_cons rfl Env.has_nil))) ⟨⟨Nat.zero_le _, rfl⟩, Ext.refl _⟩ ?_
  rintro i w1 ⟨hp, hE_lo1⟩
  have hO_lo1 := hO
  replace hO := hO_lo1.ext hE_lo1
  refine W.seq ?_
  refine W.seq ?_
  refine W.region ?_
  refine WL.yield rfl rfl rfl (Yield.move rfl rfl) ?_
  refine WL.yield rfl rfl rfl (Yield.move rfl rfl) ?_
  refine WL.yield rfl rfl rfl (Yield.lenSlice rfl rfl Try.runUnderlying45) ?_
  refine WL.yield rfl rfl rfl (Yield.bin rfl rfl rfl rfl) ?_
  refine WL.fin ?_
  refine Nm.code ?_
  refine W.cond_dec rfl (fun hc0 => ?_) (fun hc0 => ?_)
  · have hlt_x : i < l.length := by omega
    obtain ⟨ad, rfl⟩ := hr.addr hlt_x
    obtain ⟨x, hx⟩ := getD_some hlt_x
    refine W.skipN ?_
    refine Nm.code ?_
    refine W.seq ?_
    refine W.block ?_
    refine W.seq ?_
    have hz_w1 := hO.size
    refine W.region_flat 19 Try_follows (by kernel_rfl) (by kernel_rfl) rfl ?_
    refine FL.run (i := 0) [] false (fun v_ _ => v_ = .slice (some ad) (l.length) (c)) rfl rfl rfl (by kernel_rfl) (Stable.eq _) ?_ ?_
    · intro wb1 ho_wb1
      exact And.intro rfl (Eff.reads (Yield.move rfl rfl) rfl)
    refine FL.run (i := 1) [] false (fun v_ _ => v_ = .int .i64 (i)) rfl rfl rfl (by kernel_rfl) (Stable.eq _) ?_ ?_
    · intro wb1 ho_wb1
      exact And.intro rfl (Eff.reads (Yield.move rfl rfl) rfl)
    refine FL.run (i := 2) [0, 1] false (fun v_ _ => v_ = .pointer (some ((ad).add (i * 3)))) rfl rfl rfl (by kernel_rfl) (Stable.eq _) ?_ ?_
    · intro wb1 ho_wb1
      rintro _ rfl
      rintro _ rfl
      exact And.intro rfl (Eff.reads (Yield.indexNat i rfl rfl rfl Try.runUnderlying45 Try.sizeOf66 (by omega)) rfl)
    refine FL.run (i := 3) [2] false (fun v_ _ => v_ = .agg #[.int .i64 (x.f), .int .u64 ((x.n.toNat : Int)), .int .u64 ((x.t.toNat : Int))]) rfl rfl rfl (by kernel_rfl) (Stable.eq _) ?_ ?_
    · intro wb1 ho_wb1
      rintro _ rfl
      have hO := hO.ext ho_wb1
      exact And.intro rfl (Eff.reads (Yield.loadAgg (cs := [.int .i64 (x.f), .int .u64 ((x.n.toNat : Int)), .int .u64 ((x.t.toNat : Int))]) rfl rfl Try.isAgg66 Try.sizeOf66 (Rd.at (Rd.ext hr hO) hx)) rfl)
    refine FL.run (i := 4) [3] false (fun v_ _ => v_ = .bool (may x)) rfl rfl rfl (by kernel_rfl) (Stable.eq _) ?_ ?_
    · intro wb1 ho_wb1
      rintro _ rfl
      exact And.intro rfl (Eff.calls (Eff.fn rfl rfl Try.call83 (by rintro _ rfl; exact rmay_any _ x)))
    refine FL.run (i := 5) [4] false (fun v_ _ => v_ = .bool (!(may x))) rfl rfl rfl (by kernel_rfl) (Stable.eq _) ?_ ?_
    · intro wb1 ho_wb1
      rintro _ rfl
      exact And.intro rfl (Eff.reads (Yield.not rfl rfl) rfl)
    refine FL.run (i := 6) [5] false (fun v_ _ => v_ = .bool (!(may x))) rfl rfl rfl (by kernel_rfl) (Stable.eq _) ?_ ?_
    · intro wb1 ho_wb1
      rintro _ rfl
      exact And.intro rfl (Eff.reads (Yield.move rfl rfl) rfl)
    rcases Bool.eq_false_or_eq_true (!(may x)) with hg1 | hg1
    · refine FL.skip (i := 7) [6] rfl rfl rfl (by kernel_rfl) ?_ ?_
      · intro wb1 ho_wb1
        rintro _ rfl
        rw [hg1]
        exact rfl
      refine FL.skip (i := 8) [7, 6] rfl rfl rfl (by kernel_rfl) ?_ ?_
      · intro wb1 ho_wb1
        rintro _ rfl
        rintro _ rfl
        rw [hg1]
        exact rfl
      refine FL.skip (i := 9) [8, 6] rfl rfl rfl (by kernel_rfl) ?_ ?_
      · intro wb1 ho_wb1
        rintro _ rfl
        rintro _ rfl
        rw [hg1]
        exact rfl
      refine FL.skip (i := 10) [9] rfl rfl rfl (by kernel_rfl) ?_ ?_
      · intro wb1 ho_wb1
        rintro _ rfl
        exact rfl
      refine FL.skip (i := 11) [9] rfl rfl rfl (by kernel_rfl) ?_ ?_
      · intro wb1 ho_wb1
        rintro _ rfl
        exact rfl
      refine FL.skip (i := 12) [11, 9] rfl rfl rfl (by kernel_rfl) ?_ ?_
      · intro wb1 ho_wb1
        rintro _ rfl
        rintro _ rfl
        exact rfl
      refine FL.skip (i := 13) [10, 12, 9] rfl rfl rfl (by kernel_rfl) ?_ ?_
      · intro wb1 ho_wb1
        rintro _ rfl
        rintro _ rfl
        rintro _ rfl
        exact rfl
      refine FL.skip (i := 14) [13, 9] rfl rfl rfl (by kernel_rfl) ?_ ?_
      · intro wb1 ho_wb1
        rintro _ rfl
        rintro _ rfl
        exact rfl
      refine FL.skip (i := 15) [9] rfl rfl rfl (by kernel_rfl) ?_ ?_
      · intro wb1 ho_wb1
        rintro _ rfl
        exact rfl
      refine FL.skip (i := 16) [9] rfl rfl rfl (by kernel_rfl) ?_ ?_
      · intro wb1 ho_wb1
        rintro _ rfl
        exact rfl
      refine FL.skip (i := 17) [15, 16, 9] rfl rfl rfl (by kernel_rfl) ?_ ?_
      · intro wb1 ho_wb1
        rintro _ rfl
        rintro _ rfl
        rintro _ rfl
        exact rfl
      refine FL.skip (i := 18) [17, 9] rfl rfl rfl (by kernel_rfl) ?_ ?_
      · intro wb1 ho_wb1
        rintro _ rfl
        rintro _ rfl
        exact rfl
      refine FL.fin rfl [6, 9, 14, 18] ?_
      intro w2 ho_w2
      rintro _ rfl
      rw [hg1]
      rintro _ rfl
      rintro _ rfl
      rintro _ rfl
      intro _
      show WL _ _ _ _ _ _ _ _
      replace hO := hO.ext ho_w2
      replace hE_lo1 := hE_lo1.ext ho_w2
      refine WL.skip_g rfl rfl rfl ?_
      refine WL.skip_g rfl rfl rfl ?_
      refine WL.skip_g rfl rfl rfl ?_
      refine WL.yield rfl rfl rfl (Yield.pick_t rfl rfl rfl) ?_
      refine WL.fin ?_
      refine Nm.code ?_
      refine W.cond_true rfl ?_
      refine W.seq ?_
      refine W.region ?_
      refine WL.yield rfl rfl rfl (Yield.assign rfl rfl) ?_
      refine WL.fin ?_
      refine Nm.code ?_
      refine W.ret_post (fun _ _ h => h) Try.results34 rfl ?_
      refine ⟨hO, bool_eq ?_⟩
      unfold good
      rw [← hp.2]
      first | (rw [good_end (by omega)]; done) | (rw [good_step hx]; simp_all [okp]; done) | (rw [good_step hx]; simp_all [okp]; omega)
    · refine FL.run (i := 7) [6] false (fun v_ _ => v_ = .int .i64 (i)) rfl rfl rfl (by kernel_rfl) (Stable.eq _) ?_ ?_
      · intro wb1 ho_wb1
        rintro _ rfl
        rw [hg1]
        exact And.intro rfl (Eff.reads (Yield.move rfl rfl) rfl)
      refine FL.run (i := 8) [7, 6] false (fun v_ _ => v_ = .bool (decide (i > 0))) rfl rfl rfl (by kernel_rfl) (Stable.eq _) ?_ ?_
      · intro wb1 ho_wb1
        rintro _ rfl
        rintro _ rfl
        rw [hg1]
        exact And.intro rfl (Eff.reads (Yield.ar (v' := .bool (decide (i > 0))) rfl rfl rfl rfl (bool_dec (by omega))) rfl)
      refine FL.run (i := 9) [8, 6] false (fun v_ _ => v_ = .bool (decide (i > 0))) rfl rfl rfl (by kernel_rfl) (Stable.eq _) ?_ ?_
      · intro wb1 ho_wb1
        rintro _ rfl
        rintro _ rfl
        rw [hg1]
        exact And.intro rfl (Eff.reads (Yield.move rfl rfl) rfl)
      by_cases hpos : i > 0
      · have hlt_y : (i - 1) < l.length := by omega
        obtain ⟨y, hy⟩ := getD_some hlt_y
        have hpv := prevO_pos (by omega) hy
        refine FL.run (i := 10) [9] false (fun v_ _ => v_ = .slice (some ad) (l.length) (c)) rfl rfl rfl (by kernel_rfl) (Stable.eq _) ?_ ?_
        · intro wb1 ho_wb1
          rintro _ rfl
          rw [decide_eq_true hpos]
          exact And.intro rfl (Eff.reads (Yield.move rfl rfl) rfl)
        refine FL.run (i := 11) [9] false (fun v_ _ => v_ = .int .i64 (i)) rfl rfl rfl (by kernel_rfl) (Stable.eq _) ?_ ?_
        · intro wb1 ho_wb1
          rintro _ rfl
          rw [decide_eq_true hpos]
          exact And.intro rfl (Eff.reads (Yield.move rfl rfl) rfl)
        refine FL.run (i := 12) [11, 9] false (fun v_ _ => v_ = .int .i64 (((i - 1 : Nat) : Int))) rfl rfl rfl (by kernel_rfl) (Stable.eq _) ?_ ?_
        · intro wb1 ho_wb1
          rintro _ rfl
          rintro _ rfl
          rw [decide_eq_true hpos]
          exact And.intro rfl (Eff.reads (Yield.ar (v' := .int .i64 (((i - 1 : Nat) : Int))) rfl rfl rfl rfl (int_eq (by rw [wrap_i64 (by omega) (by omega)]; omega))) rfl)
        refine FL.run (i := 13) [10, 12, 9] false (fun v_ _ => v_ = .pointer (some ((ad).add ((i - 1) * 3)))) rfl rfl rfl (by kernel_rfl) (Stable.eq _) ?_ ?_
        · intro wb1 ho_wb1
          rintro _ rfl
          rintro _ rfl
          rintro _ rfl
          rw [decide_eq_true hpos]
          exact And.intro rfl (Eff.reads (Yield.indexNat (i - 1) rfl rfl rfl Try.runUnderlying45 Try.sizeOf66 (by omega)) rfl)
        refine FL.run (i := 14) [13, 9] false (fun v_ _ => v_ = .agg #[.int .i64 (y.f), .int .u64 ((y.n.toNat : Int)), .int .u64 ((y.t.toNat : Int))]) rfl rfl rfl (by kernel_rfl) (Stable.eq _) ?_ ?_
        · intro wb1 ho_wb1
          rintro _ rfl
          rintro _ rfl
          rw [decide_eq_true hpos]
          have hO := hO.ext ho_wb1
          exact And.intro rfl (Eff.reads (Yield.loadAgg (cs := [.int .i64 (y.f), .int .u64 ((y.n.toNat : Int)), .int .u64 ((y.t.toNat : Int))]) rfl rfl Try.isAgg66 Try.sizeOf66 (Rd.at (Rd.ext hr hO) hy)) rfl)
        refine FL.run (i := 15) [9] false (fun v_ _ => v_ = .slice (some ad) (l.length) (c)) rfl rfl rfl (by kernel_rfl) (Stable.eq _) ?_ ?_
        · intro wb1 ho_wb1
          rintro _ rfl
          rw [decide_eq_true hpos]
          exact And.intro rfl (Eff.reads (Yield.move rfl rfl) rfl)
        refine FL.run (i := 16) [9] false (fun v_ _ => v_ = .int .i64 (i)) rfl rfl rfl (by kernel_rfl) (Stable.eq _) ?_ ?_
        · intro wb1 ho_wb1
          rintro _ rfl
          rw [decide_eq_true hpos]
          exact And.intro rfl (Eff.reads (Yield.move rfl rfl) rfl)
        refine FL.run (i := 17) [15, 16, 9] false (fun v_ _ => v_ = .pointer (some ((ad).add (i * 3)))) rfl rfl rfl (by kernel_rfl) (Stable.eq _) ?_ ?_
        · intro wb1 ho_wb1
          rintro _ rfl
          rintro _ rfl
          rintro _ rfl
          rw [decide_eq_true hpos]
          exact And.intro rfl (Eff.reads (Yield.indexNat i rfl rfl rfl Try.runUnderlying45 Try.sizeOf66 (by omega)) rfl)
        refine FL.run (i := 18) [17, 9] false (fun v_ _ => v_ = .agg #[.int .i64 (x.f), .int .u64 ((x.n.toNat : Int)), .int .u64 ((x.t.toNat : Int))]) rfl rfl rfl (by kernel_rfl) (Stable.eq _) ?_ ?_
        · intro wb1 ho_wb1
          rintro _ rfl
          rintro _ rfl
          rw [decide_eq_true hpos]
          have hO := hO.ext ho_wb1
          exact And.intro rfl (Eff.reads (Yield.loadAgg (cs := [.int .i64 (x.f), .int .u64 ((x.n.toNat : Int)), .int .u64 ((x.t.toNat : Int))]) rfl rfl Try.isAgg66 Try.sizeOf66 (Rd.at (Rd.ext hr hO) hx)) rfl)
        refine FL.fin rfl [6, 9, 14, 18] ?_
        intro w3 ho_w3
        rintro _ rfl
        rw [hg1]
        rintro _ rfl
        rw [decide_eq_true hpos]
        rintro _ rfl
        rintro _ rfl
        intro _
        show WL _ _ _ _ _ _ _ _
        replace hO := hO.ext ho_w3
        replace hE_lo1 := hE_lo1.ext ho_w3
        refine WL.eff _ rfl rfl (Eff.fn rfl rfl Try.call84 (by rintro _ rfl; exact rahead_any _ y x)) ?_
        have hz_w3 := hO.size
        rintro _ w4 ⟨ho_w4, rfl⟩
        replace hO := hO.ext ho_w4
        replace hE_lo1 := hE_lo1.ext ho_w4
        refine WL.yield_g rfl rfl rfl (Yield.not_dec rfl rfl) ?_
        refine WL.yield_g rfl rfl rfl (Yield.pick_t rfl rfl rfl) ?_
        refine WL.yield rfl rfl rfl (Yield.pick_f rfl rfl rfl) ?_
        refine WL.fin ?_
        refine Nm.code ?_
        refine W.cond_dec rfl (fun hc1 => ?_) (fun hc1 => ?_)
        · refine W.seq ?_
          refine W.region ?_
          refine WL.yield rfl rfl rfl (Yield.assign rfl rfl) ?_
          refine WL.fin ?_
          refine Nm.code ?_
          refine W.ret_post (fun _ _ h => h) Try.results34 rfl ?_
          refine ⟨hO, bool_eq ?_⟩
          unfold good
          rw [← hp.2]
          first | (rw [good_end (by omega)]; done) | (rw [good_step hx]; simp_all [okp]; done) | (rw [good_step hx]; simp_all [okp]; omega)
        · refine W.skipN ?_
          refine Nm.block ?_
          refine Nm.code ?_
          refine W.region ?_
          refine WL.yield rfl rfl rfl (Yield.move rfl rfl) ?_
          refine WL.yield rfl rfl rfl (Yield.ar (v' := .int .i64 (((i + 1 : Nat) : Int))) rfl rfl rfl rfl (int_eq (by rw [wrap_i64 (by omega) (by omega)]; omega))) ?_
          refine WL.yield rfl rfl rfl (Yield.assign rfl rfl) ?_
          refine WL.fin ?_
          refine Nm.again (i + 1) (Env.has_cons rfl (Env.has_cons rfl (Env.has_cons rfl Env.has_nil))) ⟨⟨by omega, by rw [← hp.2, good_step hx]; simp_all [okp]⟩, hE_lo1⟩ (by omega)
      · have hpv := prevO_zero (l := l) hpos
        refine FL.skip (i := 10) [9] rfl rfl rfl (by kernel_rfl) ?_ ?_
        · intro wb1 ho_wb1
          rintro _ rfl
          rw [decide_eq_false hpos]
          exact rfl
        refine FL.skip (i := 11) [9] rfl rfl rfl (by kernel_rfl) ?_ ?_
        · intro wb1 ho_wb1
          rintro _ rfl
          rw [decide_eq_false hpos]
          exact rfl
        refine FL.skip (i := 12) [11, 9] rfl rfl rfl (by kernel_rfl) ?_ ?_
        · intro wb1 ho_wb1
          rintro _ rfl
          rintro _ rfl
          rw [decide_eq_false hpos]
          exact rfl
        refine FL.skip (i := 13) [10, 12, 9] rfl rfl rfl (by kernel_rfl) ?_ ?_
        · intro wb1 ho_wb1
          rintro _ rfl
          rintro _ rfl
          rintro _ rfl
          rw [decide_eq_false hpos]
          exact rfl
        refine FL.skip (i := 14) [13, 9] rfl rfl rfl (by kernel_rfl) ?_ ?_
        · intro wb1 ho_wb1
          rintro _ rfl
          rintro _ rfl
          rw [decide_eq_false hpos]
          exact rfl
        refine FL.skip (i := 15) [9] rfl rfl rfl (by kernel_rfl) ?_ ?_
        · intro wb1 ho_wb1
          rintro _ rfl
          rw [decide_eq_false hpos]
          exact rfl
        refine FL.skip (i := 16) [9] rfl rfl rfl (by kernel_rfl) ?_ ?_
        · intro wb1 ho_wb1
          rintro _ rfl
          rw [decide_eq_false hpos]
          exact rfl
        refine FL.skip (i := 17) [15, 16, 9] rfl rfl rfl (by kernel_rfl) ?_ ?_
        · intro wb1 ho_wb1
          rintro _ rfl
          rintro _ rfl
          rintro _ rfl
          rw [decide_eq_false hpos]
          exact rfl
        refine FL.skip (i := 18) [17, 9] rfl rfl rfl (by kernel_rfl) ?_ ?_
        · intro wb1 ho_wb1
          rintro _ rfl
          rintro _ rfl
          rw [decide_eq_false hpos]
          exact rfl
        refine FL.fin rfl [6, 9, 14, 18] ?_
        intro w5 ho_w5
        rintro _ rfl
        rw [hg1]
        rintro _ rfl
        rw [decide_eq_false hpos]
        rintro _ rfl
        rintro _ rfl
        intro _
        show WL _ _ _ _ _ _ _ _
        replace hO := hO.ext ho_w5
        replace hE_lo1 := hE_lo1.ext ho_w5
        refine WL.skip_g rfl rfl rfl ?_
        refine WL.skip_g rfl rfl rfl ?_
        refine WL.yield_g rfl rfl rfl (Yield.pick_f rfl rfl rfl) ?_
        refine WL.yield rfl rfl rfl (Yield.pick_f rfl rfl rfl) ?_
        refine WL.fin ?_
        refine Nm.code ?_
        refine W.cond_false rfl ?_
        refine W.skipN ?_
        refine Nm.block ?_
        refine Nm.code ?_
        refine W.region ?_
        refine WL.yield rfl rfl rfl (Yield.move rfl rfl) ?_
        refine WL.yield rfl rfl rfl (Yield.ar (v' := .int .i64 (((i + 1 : Nat) : Int))) rfl rfl rfl rfl (int_eq (by rw [wrap_i64 (by omega) (by omega)]; omega))) ?_
        refine WL.yield rfl rfl rfl (Yield.assign rfl rfl) ?_
        refine WL.fin ?_
        refine Nm.again (i + 1) (Env.has_cons rfl (Env.has_cons rfl (Env.has_cons rfl Env.has_nil))) ⟨⟨by omega, by rw [← hp.2, good_step hx]; simp_all [okp]⟩, hE_lo1⟩ (by omega)
  · refine W.exitX ?_
    refine Ex.thenX ?_
    refine Ex.thenX ?_
    refine Ex.hit ?_
    refine Nm.code ?_
    refine W.seq ?_
    refine W.region ?_
    refine WL.yield rfl rfl rfl (Yield.assign rfl rfl) ?_
    refine WL.fin ?_
    refine Nm.code ?_
    refine W.ret_post (fun _ _ h => h) Try.results34 rfl ?_
    refine ⟨hO, bool_eq ?_⟩
    unfold good
    rw [← hp.2]
    first | (rw [good_end (by omega)]; done) | (rw [good_step hx]; simp_all [okp]; done) | (rw [good_step hx]; simp_all [okp]; omega)

theorem put_log (w : World) (A : Option Addr) (c : Nat) (l : List En) (hr : Rd encEn w A l) (hlen : l.length ≤ 100000) :
    Fc Try.prog 33 #[.agg #[.slice (A) (l.length) (c)]] w (fun v w' => Ext w w' ∧ NwSl w.heap.size encB 5 (putT l) v w') := by
  refine Fc.enter (args := [.agg #[.slice (A) (l.length) (c)]]) Try.func33 rfl Try.ntmps33 rfl ?_
  intro K_
  have hO : Only (fun _ => False) w w := Only.refl _ _
  refine W.seq ?_
  refine W.region ?_
  refine WL.eff _ rfl rfl (Eff.box rfl rfl) ?_
  rintro _ w1 ⟨_, b1, rfl, hs_b1, rfl, he_w1⟩
  have hb_b1 : w1.heap[b1]? = some (.cells #[.slice (A) (l.length) (c)] 41 (0, 0)) := by rw [he_w1, hs_b1]; exact new_get _ _
  have ho_w1 : Ext w w1 := by rw [he_w1]; exact Ext.alloc _ _
  clear he_w1
  have hn_b1 : w.heap.size ≤ b1 := by rw [hs_b1]; exact hO.size
  replace hO := hO.ext ho_w1
  refine WL.yield rfl rfl rfl (Yield.assign rfl rfl) ?_
  refine WL.fin ?_
  refine Nm.code ?_
  refine W.seq ?_
  refine W.seq ?_
  refine W.region ?_
  refine WL.yield rfl rfl rfl (Yield.loadAgg (cs := [.slice (A) (l.length) (c)]) rfl rfl Try.isAgg41 Try.sizeOf41 (blk_cells hb_b1 rfl)) ?_
  refine WL.eff _ rfl rfl (Eff.fn rfl rfl Try.call21 (by rintro _ rfl; exact good_any _ _ _ _ (hr.ext hO) hlen)) ?_
  have hlt_b1_w1 : b1 < w1.heap.size := blk_lt hb_b1
  have hz_w1 := hO.size
  rintro _ w2 ⟨ho_w2, rfl⟩
  replace hb_b1 := ho_w2.get hb_b1
  replace hO := hO.ext ho_w2
  refine WL.yield rfl rfl rfl (Yield.not rfl rfl) ?_
  refine WL.fin ?_
  refine Nm.code ?_
  refine W.cond rfl (fun hc0 => ?_) (fun hc0 => ?_)
  · refine W.seq ?_
    refine W.region ?_
    refine WL.yield rfl rfl rfl (Yield.assign rfl rfl) ?_
    refine WL.fin ?_
    refine Nm.code ?_
    refine W.ret_post (fun _ _ h => h) Try.results33 rfl ?_
    exact ⟨hO, by rw [putT_bad (by simpa using hc0)]; exact (Nw.nil _ _ _ _).toSl⟩
  · have hgood : good l = true := by simpa using hc0
    refine W.skipN ?_
    refine Nm.code ?_
    refine W.seq ?_
    refine W.region ?_
    refine WL.eff _ rfl rfl (Eff.fn rfl rfl Try.call79 (by rintro _ rfl; exact newwriter _)) ?_
    have hlt_b1_w2 : b1 < w2.heap.size := blk_lt hb_b1
    have hz_w2 := hO.size
    rintro _ w3 ⟨ho_w3, ⟨b_9, rfl, hb_b_9, hn_b_9⟩⟩
    have hq_b1_b_9 : b1 < b_9 := Nat.lt_of_lt_of_le hlt_b1_w2 hn_b_9
    replace hn_b_9 := Nat.le_trans hz_w2 hn_b_9
    replace hb_b1 := ho_w3.get hb_b1
    replace hO := hO.ext ho_w3
    refine WL.yield rfl rfl rfl (Yield.assign rfl rfl) ?_
    refine WL.fin ?_
    refine Nm.code ?_
    refine W.seq ?_
    refine W.region ?_
    refine WL.yield rfl rfl rfl (Yield.move rfl rfl) ?_
    refine WL.yield rfl rfl rfl (Yield.fieldAt (k := 0) rfl rfl Try.runUnderlying41 rfl Try.sizeOf39 rfl) ?_
    refine WL.yield rfl rfl rfl (Yield.load (v := .slice (A) (l.length) (c)) rfl rfl Try.isAgg39 (cell_get hb_b1 rfl)) ?_
    refine WL.yield rfl rfl rfl (Yield.lenSlice rfl rfl Try.runUnderlying39) ?_
    refine WL.yield rfl rfl rfl ((Yield.convInt rfl rfl Try.runUnderlying3 Try.runUnderlying32).cast (v' := .int .u64 (l.length)) (int_eq (wrap_u64 (by omega) (by omega)))) ?_
    refine WL.eff _ rfl rfl (Eff.fn rfl rfl Try.call80 (by rintro _ rfl; exact wnum_any _ b_9 none 0 [] hb_b_9 (Rd.nil _ _ _) l.length (by omega) (by show 0 ≤ 140737488355000; omega))) ?_
    have hlt_b1_w3 : b1 < w3.heap.size := blk_lt hb_b1
    have hlt_b_9_w3 : b_9 < w3.heap.size := blk_lt hb_b_9
    have hz_w3 := hO.size
    rintro _ w4 ⟨ho_w4, rfl, A_r, c_r, hb_new, hc_r, hv_r⟩
    replace hb_b1 := ho_w4.get hb_b1 (by omega)
    replace hb_b_9 := hb_new
    replace hO := hO.trans ho_w4 (by intro i hi1 hi2; first | exact hi2 | (exfalso; omega) | (left; exact hi2) | (right; exact hi2) | (right; left; exact hi2))
    rw [show ([] : List UInt8) ++ lebL l.length = accL l 0 by simp [accL]] at hb_b_9 hv_r
    refine WL.fin ?_
    refine Nm.code ?_
    refine W.seq ?_
    refine W.seq ?_
    refine W.region ?_
    refine WL.yield rfl rfl rfl (Yield.fieldAt (k := 0) rfl rfl Try.runUnderlying41 rfl Try.sizeOf39 rfl) ?_
    refine WL.yield rfl rfl rfl (Yield.load (v := .slice (A) (l.length) (c)) rfl rfl Try.isAgg39 (cell_get hb_b1 rfl)) ?_
    refine WL.yield rfl rfl rfl (Yield.lenSlice rfl rfl Try.runUnderlying39) ?_
    refine WL.yield rfl rfl rfl (Yield.move rfl rfl) ?_
    refine WL.fin ?_
    refine Nm.code ?_
    refine W.block ?_
    have hz_w4 := hO.size
    have hlt_b1_w4 : b1 < w4.heap.size := blk_lt hb_b1
    have hlt_b_9_w4 : b_9 < w4.heap.size := blk_lt hb_b_9
    refine W.loop (σ := Nat × Option Addr × Nat) (fun ⟨i, A_r, c_r⟩ => [(2, .slice (none) (0) (0)), (8, .bool (!(good l))), (3, .pointer (some ⟨b_9, 0, none⟩)), (17, .slice (A) (l.length) (c)), (18, .int .i64 (l.length)), (19, .int .i64 (i))]) (fun ⟨i, A_r, c_r⟩ ww => ((i ≤ l.length) ∧ Only (fun _ => False) w ww ∧ Only (fun k => k = b_9) w4 ww ∧ ww.heap[b1]? = some (.cells #[.slice (A) (l.length) (c)] 41 (0, 0)) ∧ ww.heap[b_9]? = some (.cells #[.slice (A_r) ((accL l i).length) (c_r)] 187 (0, 0)) ∧ Nw w.heap.size encB 5 (accL l i) (.slice A_r (accL l i).length c_r) ww ∧ ∀ q, (Value.slice A_r (accL l i).length c_r).ownBlock = some q → q ≠ b_9)) (fun ⟨i, A_r, c_r⟩ => (l.length - i)) ⟨0, A_r, c_r⟩ (Env.has_cons rfl (Env.has_cons rfl (Env.has_cons rfl (Env.has_cons rfl (Env.has_cons rfl (Env.has_cons rfl Env.has_nil)))))) ⟨Nat.zero_le _, hO, Only.refl _ _, hb_b1, hb_b_9, hv_r.le (by omega), (fun q hq => by have := hv_r.2 q hq; omega)⟩ ?_
    clear hO hb_b1 hb_b_9 hv_r
    rintro ⟨i, A_r, c_r⟩ w5 ⟨hp, hO, hE_lo1, hb_b1, hb_b_9, hv_r, hl_hv_r_b_9⟩
    refine W.seq ?_
    refine W.region ?_
    refine WL.yield rfl rfl rfl (Yield.bin rfl rfl rfl rfl) ?_
    refine WL.fin ?_
    refine Nm.code ?_
    refine W.seq ?_
    refine W.cond_dec rfl (fun hi => ?_) (fun hi => ?_)
    · have hlt_x : i < l.length := by omega
      obtain ⟨ad, rfl⟩ := hr.addr hlt_x
      obtain ⟨x, hx⟩ := getD_some hlt_x
      have hm := good_may hgood x (List.mem_of_getElem? hx)
      have hf := may_f hm
      have hn64 := x.n.isLt
      have ht64 := x.t.isLt
      refine W.skipN ?_
      refine Nm.code ?_
      refine W.seq ?_
      refine W.block ?_
      refine W.seq ?_
      refine W.region ?_
      refine WL.yield rfl rfl rfl (Yield.indexNat i rfl rfl rfl Try.runUnderlying39 Try.sizeOf51 (by omega)) ?_
      refine WL.yield rfl rfl rfl (Yield.loadAgg (cs := [.int .i64 (x.f), .int .u64 ((x.n.toNat : Int)), .int .u64 ((x.t.toNat : Int))]) rfl rfl Try.isAgg51 Try.sizeOf51 (Rd.at (Rd.ext hr hO) hx)) ?_
      refine WL.eff _ rfl rfl (Eff.alloc rfl Try.zeroValue51) ?_
      rintro _ w6 ⟨_, b2, rfl, hs_b2, rfl, he_w6⟩
      have hb_b2 : w6.heap[b2]? = some (.cells #[.int .i64 (0), .int .u64 (0), .int .u64 (0)] 51 (0, 0)) := by rw [he_w6, hs_b2]; exact new_get _ _
      have ho_w6 : Ext w5 w6 := by rw [he_w6]; exact Ext.alloc _ _
      clear he_w6
      have hn_b2 : w.heap.size ≤ b2 := by rw [hs_b2]; exact hO.size
      have hn_b2_hE_lo1 : w4.heap.size ≤ b2 := by rw [hs_b2]; exact hE_lo1.size
      have hl_hv_r_b2 := Nw.below hv_r (Nat.le_of_eq hs_b2.symm)
      have hq_b1_b2 : b1 < b2 := by rw [hs_b2]; exact blk_lt hb_b1
      have hq_b_9_b2 : b_9 < b2 := by rw [hs_b2]; exact blk_lt hb_b_9
      replace hb_b1 := ho_w6.get hb_b1
      replace hb_b_9 := ho_w6.get hb_b_9
      replace hO := hO.ext ho_w6
      replace hv_r := hv_r.ext ho_w6
      replace hE_lo1 := hE_lo1.ext ho_w6
      refine WL.eff _ rfl rfl (Eff.storeBlk (vs := [.int .i64 (x.f), .int .u64 ((x.n.toNat : Int)), .int .u64 ((x.t.toNat : Int))]) (cs := [.int .i64 (0), .int .u64 (0), .int .u64 (0)]) (cs' := [.int .i64 (x.f), .int .u64 ((x.n.toNat : Int)), .int .u64 ((x.t.toNat : Int))]) rfl rfl rfl Try.sizeOf51 rfl (List.forall_mem_cons.2 ⟨rfl, (List.forall_mem_cons.2 ⟨rfl, (List.forall_mem_cons.2 ⟨rfl, (fun _ h => nomatch h)⟩)⟩)⟩) hb_b2 rfl rfl) ?_
      rintro _ w7 ⟨ho_w7, hb_new⟩
      replace hb_b1 := ho_w7.get hb_b1 (by omega)
      replace hb_b_9 := ho_w7.get hb_b_9 (by omega)
      replace hb_b2 := hb_new
      replace hO := hO.trans ho_w7 (by intro i hi1 hi2; first | exact hi2 | (exfalso; omega) | (left; exact hi2) | (right; exact hi2) | (right; left; exact hi2))
      replace hv_r := hv_r.only ho_w7 (fun q hq h => absurd (show q = b2 from h) (by have := hv_r.2 q hq; have := hl_hv_r_b2 q hq; omega))
      replace hE_lo1 := hE_lo1.trans ho_w7 (fun i hi1 hi2 => by have h3 : i = b2 := hi2; show i = b_9; omega)
      refine WL.fin ?_
      refine Nm.code ?_
      refine W.seq ?_
      refine W.region ?_
      refine WL.yield rfl rfl rfl (Yield.move rfl rfl) ?_
      refine WL.yield rfl rfl rfl (Yield.fieldAt (k := 0) rfl rfl Try.runUnderlying51 rfl Try.sizeOf3 rfl) ?_
      refine WL.yield rfl rfl rfl (Yield.load (v := .int .i64 (x.f)) rfl rfl Try.isAgg3 (cell_get hb_b2 rfl)) ?_
      refine WL.yield rfl rfl rfl ((Yield.convInt rfl rfl Try.runUnderlying3 Try.runUnderlying32).cast (v' := .int .u64 (((x.f.toNat : Nat) : Int))) (int_eq (by rw [wrap_u64 (by omega) (by omega)]; omega))) ?_
      refine WL.eff _ rfl rfl (Eff.fn rfl rfl Try.call80 (by rintro _ rfl; exact wnum_any _ b_9 _ _ (accL l i) hb_b_9 hv_r.rd x.f.toNat (by omega) (by have h1 := accL_len l (i := i) (by omega); omega))) ?_
      have hlt_b1_w7 : b1 < w7.heap.size := blk_lt hb_b1
      have hlt_b_9_w7 : b_9 < w7.heap.size := blk_lt hb_b_9
      have hlt_b2_w7 : b2 < w7.heap.size := blk_lt hb_b2
      have hz_w7 := hO.size
      rintro _ w8 ⟨ho_w8, rfl, A_r1, c_r1, hb_new, hc_r1, hv_r1⟩
      replace hb_b1 := ho_w8.get hb_b1 (by omega)
      replace hb_b_9 := hb_new
      replace hb_b2 := ho_w8.get hb_b2 (by omega)
      replace hO := hO.trans ho_w8 (by intro i hi1 hi2; first | exact hi2 | (exfalso; omega) | (left; exact hi2) | (right; exact hi2) | (right; left; exact hi2))
      replace hv_r := hv_r.only ho_w8 (fun q hq h => absurd (show q = b_9 from h) (by have := hv_r.2 q hq; have := hl_hv_r_b_9 q hq; omega))
      replace hE_lo1 := hE_lo1.trans ho_w8 (fun i hi1 hi2 => by have h3 : i = b_9 := hi2; show i = b_9; omega)
      refine WL.fin ?_
      refine Nm.code ?_
      refine W.seq ?_
      refine W.region ?_
      refine WL.yield rfl rfl rfl (Yield.move rfl rfl) ?_
      refine WL.yield rfl rfl rfl (Yield.fieldAt (k := 1) rfl rfl Try.runUnderlying51 rfl Try.sizeOf32 rfl) ?_
      refine WL.yield rfl rfl rfl (Yield.load (v := .int .u64 ((x.n.toNat : Int))) rfl rfl Try.isAgg32 (cell_get hb_b2 rfl)) ?_
      refine WL.eff _ rfl rfl (Eff.fn rfl rfl Try.call80 (by rintro _ rfl; exact wnum_any _ b_9 _ _ (accL l i ++ lebL x.f.toNat) hb_b_9 hv_r1.rd x.n.toNat (by omega) (by have h1 := accL_len l (i := i) (by omega); have h2 := lebL_le x.f.toNat; have h3 := lebL_le x.n.toNat; simp only [List.length_append]; omega))) ?_
      have hlt_b1_w8 : b1 < w8.heap.size := blk_lt hb_b1
      have hlt_b_9_w8 : b_9 < w8.heap.size := blk_lt hb_b_9
      have hlt_b2_w8 : b2 < w8.heap.size := blk_lt hb_b2
      have hz_w8 := hO.size
      rintro _ w9 ⟨ho_w9, rfl, A_r2, c_r2, hb_new, hc_r2, hv_r2⟩
      replace hb_b1 := ho_w9.get hb_b1 (by omega)
      replace hb_b_9 := hb_new
      replace hb_b2 := ho_w9.get hb_b2 (by omega)
      replace hO := hO.trans ho_w9 (by intro i hi1 hi2; first | exact hi2 | (exfalso; omega) | (left; exact hi2) | (right; exact hi2) | (right; left; exact hi2))
      replace hv_r1 := hv_r1.only ho_w9 (fun q hq h => absurd (show q = b_9 from h) (by have := hv_r1.2 q hq; omega))
      replace hE_lo1 := hE_lo1.trans ho_w9 (fun i hi1 hi2 => by have h3 : i = b_9 := hi2; show i = b_9; omega)
      refine WL.fin ?_
      refine Nm.code ?_
      refine W.region ?_
      refine WL.yield rfl rfl rfl (Yield.move rfl rfl) ?_
      refine WL.yield rfl rfl rfl (Yield.fieldAt (k := 2) rfl rfl Try.runUnderlying51 rfl Try.sizeOf49 rfl) ?_
      refine WL.yield rfl rfl rfl (Yield.load (v := .int .u64 ((x.t.toNat : Int))) rfl rfl Try.isAgg49 (cell_get hb_b2 rfl)) ?_
      refine WL.eff _ rfl rfl (Eff.fn rfl rfl Try.call81 (by rintro _ rfl; exact wset_any _ b_9 _ _ ((accL l i ++ lebL x.f.toNat) ++ lebL x.n.toNat) hb_b_9 hv_r2.rd x.t.toNat (by omega) (by have h1 := accL_len l (i := i) (by omega); have h2 := lebL_le x.f.toNat; have h3 := lebL_le x.n.toNat; simp only [List.length_append]; omega))) ?_
      have hlt_b1_w9 : b1 < w9.heap.size := blk_lt hb_b1
      have hlt_b_9_w9 : b_9 < w9.heap.size := blk_lt hb_b_9
      have hlt_b2_w9 : b2 < w9.heap.size := blk_lt hb_b2
      have hz_w9 := hO.size
      rintro _ w10 ⟨ho_w10, rfl, A_r3, c_r3, hb_new, hc_r3, hv_r3⟩
      replace hb_b1 := ho_w10.get hb_b1 (by omega)
      replace hb_b_9 := hb_new
      replace hb_b2 := ho_w10.get hb_b2 (by omega)
      replace hO := hO.trans ho_w10 (by intro i hi1 hi2; first | exact hi2 | (exfalso; omega) | (left; exact hi2) | (right; exact hi2) | (right; left; exact hi2))
      replace hv_r2 := hv_r2.only ho_w10 (fun q hq h => absurd (show q = b_9 from h) (by have := hv_r2.2 q hq; omega))
      replace hE_lo1 := hE_lo1.trans ho_w10 (fun i hi1 hi2 => by have h3 : i = b_9 := hi2; show i = b_9; omega)
      refine WL.fin ?_
      refine Nm.block ?_
      refine Nm.code ?_
      refine W.region ?_
      refine WL.yield rfl rfl rfl (Yield.ar (v' := .int .i64 (((i + 1 : Nat) : Int))) rfl rfl rfl rfl (int_eq (by rw [wrap_i64 (by omega) (by omega)]; omega))) ?_
      refine WL.yield rfl rfl rfl (Yield.move rfl rfl) ?_
      refine WL.fin ?_
      have hacc : (((accL l i ++ lebL x.f.toNat) ++ lebL x.n.toNat) ++ lebL x.t.toNat) = accL l (i + 1) := accL_step hx
      rw [hacc] at hb_b_9 hv_r3
      have hl_hv_r_b_9 : ∀ q, (Value.slice A_r3 (accL l (i + 1)).length c_r3).ownBlock = some q → q ≠ b_9 := fun q hq => by have := hv_r3.2 q hq; omega
      have hv_r := hv_r3.le (show w.heap.size ≤ _ by omega)
      refine Nm.again ⟨i + 1, A_r3, c_r3⟩ (Env.has_cons rfl (Env.has_cons rfl (Env.has_cons rfl (Env.has_cons rfl (Env.has_cons rfl (Env.has_cons rfl Env.has_nil)))))) ⟨by omega, hO, hE_lo1, hb_b1, hb_b_9, hv_r, hl_hv_r_b_9⟩ (by show l.length - (i + 1) < l.length - i; omega)
    · refine W.exitX ?_
      refine Ex.thenX ?_
      refine Ex.thenX ?_
      refine Ex.hit ?_
      refine Nm.code ?_
      refine W.seq ?_
      refine W.region ?_
      refine WL.yield rfl rfl rfl (Yield.move rfl rfl) ?_
      refine WL.eff _ rfl rfl (Eff.fn rfl rfl Try.call82 (by rintro _ rfl; exact wdone_any _ b_9 _ _ (accL l i) hb_b_9 hv_r.rd (by have h1 := accL_len l (i := i) (by omega); omega))) ?_
      have hlt_b1_w5 : b1 < w5.heap.size := blk_lt hb_b1
      have hlt_b_9_w5 : b_9 < w5.heap.size := blk_lt hb_b_9
      have hz_w5 := hO.size
      rintro _ w11 ⟨ho_w11, ⟨A_38, c_38, rfl, hc_38, hv_38⟩⟩
      replace hb_b1 := ho_w11.get hb_b1
      replace hb_b_9 := ho_w11.get hb_b_9
      replace hO := hO.ext ho_w11
      replace hv_r := hv_r.ext ho_w11
      refine WL.yield rfl rfl rfl (Yield.assign rfl rfl) ?_
      refine WL.fin ?_
      refine Nm.code ?_
      refine W.ret_post (fun _ _ h => h) Try.results33 rfl ?_
      have hi2 : i = l.length := by omega
      subst hi2
      rw [putT_good hgood]
      exact ⟨hO, _, _, rfl, hc_38, hv_38.le (by omega)⟩

theorem rput_log (w : World) (A : Option Addr) (c : Nat) (l : List En) (hr : Rd encEn w A l) (hlen : l.length ≤ 100000) :
    Fc Try.prog 41 #[.slice (A) (l.length) (c)] w (fun v w' => Ext w w' ∧ NwSl w.heap.size encB 5 (putT l) v w') := by
  refine Fc.enter (args := [.slice (A) (l.length) (c)]) Try.func41 rfl Try.ntmps41 rfl ?_
  intro K_
  have hO : Only (fun _ => False) w w := Only.refl _ _
  refine W.seq ?_
  refine W.region ?_
  refine WL.yield rfl rfl rfl (Yield.assign rfl rfl) ?_
  refine WL.fin ?_
  refine Nm.code ?_
  refine W.seq ?_
  refine W.seq ?_
  refine W.region ?_
  refine WL.yield rfl rfl rfl (Yield.move rfl rfl) ?_
  refine WL.eff _ rfl rfl (Eff.fn rfl rfl Try.call34 (by rintro _ rfl; exact rgood_any _ _ _ _ (hr.ext hO) (by omega))) ?_
  have hz_w := hO.size
  rintro _ w1 ⟨ho_w1, rfl⟩
  replace hO := hO.ext ho_w1
  refine WL.yield rfl rfl rfl (Yield.not rfl rfl) ?_
  refine WL.fin ?_
  refine Nm.code ?_
  refine W.cond rfl (fun hc0 => ?_) (fun hc0 => ?_)
  · refine W.seq ?_
    refine W.region ?_
    refine WL.yield rfl rfl rfl (Yield.assign rfl rfl) ?_
    refine WL.fin ?_
    refine Nm.code ?_
    refine W.ret_post (fun _ _ h => h) Try.results41 rfl ?_
    exact ⟨hO, by rw [putT_bad (by simpa using hc0)]; exact (Nw.nil _ _ _ _).toSl⟩
  · have hgood : good l = true := by simpa using hc0
    refine W.skipN ?_
    refine Nm.code ?_
    refine W.seq ?_
    refine W.region ?_
    refine WL.yield rfl rfl rfl (Yield.build (cells := #[.slice (none) (0) (0)]) rfl rfl (by kernel_rfl)) ?_
    refine WL.eff _ rfl rfl (Eff.box rfl rfl) ?_
    rintro _ w2 ⟨_, b1, rfl, hs_b1, rfl, he_w2⟩
    have hb_b1 : w2.heap[b1]? = some (.cells #[.slice (none) (0) (0)] 151 (0, 0)) := by rw [he_w2, hs_b1]; exact new_get _ _
    have ho_w2 : Ext w1 w2 := by rw [he_w2]; exact Ext.alloc _ _
    clear he_w2
    have hn_b1 : w.heap.size ≤ b1 := by rw [hs_b1]; exact hO.size
    replace hO := hO.ext ho_w2
    refine WL.yield rfl rfl rfl (Yield.assign rfl rfl) ?_
    refine WL.fin ?_
    refine Nm.code ?_
    refine W.seq ?_
    refine W.region ?_
    refine WL.yield rfl rfl rfl (Yield.move rfl rfl) ?_
    refine WL.yield rfl rfl rfl (Yield.move rfl rfl) ?_
    refine WL.yield rfl rfl rfl (Yield.lenSlice rfl rfl Try.runUnderlying45) ?_
    refine WL.yield rfl rfl rfl ((Yield.convInt rfl rfl Try.runUnderlying3 Try.runUnderlying32).cast (v' := .int .u64 (l.length)) (int_eq (wrap_u64 (by omega) (by omega)))) ?_
    refine WL.eff _ rfl rfl (Eff.fn rfl rfl Try.call87 (by rintro _ rfl; exact vnum_any _ b1 none 0 [] hb_b1 (Rd.nil _ _ _) l.length (by omega) (by show 0 ≤ 140737488355000; omega))) ?_
    have hlt_b1_w2 : b1 < w2.heap.size := blk_lt hb_b1
    have hz_w2 := hO.size
    rintro _ w3 ⟨ho_w3, rfl, A_r, c_r, hb_new, hc_r, hv_r⟩
    replace hb_b1 := hb_new
    replace hO := hO.trans ho_w3 (by intro i hi1 hi2; first | exact hi2 | (exfalso; omega) | (left; exact hi2) | (right; exact hi2) | (right; left; exact hi2))
    rw [show ([] : List UInt8) ++ lebL l.length = accL l 0 by simp [accL]] at hb_b1 hv_r
    refine WL.fin ?_
    refine Nm.code ?_
    refine W.seq ?_
    refine W.seq ?_
    refine W.region ?_
    refine WL.yield rfl rfl rfl (Yield.assign rfl rfl) ?_
    refine WL.fin ?_
    refine Nm.code ?_
    refine W.block ?_
    have hz_w3 := hO.size
    have hlt_b1_w3 : b1 < w3.heap.size := blk_lt hb_b1
    refine W.loop (σ := Nat × Option Addr × Nat) (fun ⟨i, A_r, c_r⟩ => [(0, .slice (A) (l.length) (c)), (2, .slice (none) (0) (0)), (7, .bool (!(good l))), (3, .pointer (some ⟨b1, 0, none⟩)), (4, .int .i64 (i))]) (fun ⟨i, A_r, c_r⟩ ww => ((i ≤ l.length) ∧ Only (fun _ => False) w ww ∧ Only (fun k => k = b1) w3 ww ∧ ww.heap[b1]? = some (.cells #[.slice (A_r) ((accL l i).length) (c_r)] 151 (0, 0)) ∧ Nw w.heap.size encB 5 (accL l i) (.slice A_r (accL l i).length c_r) ww ∧ ∀ q, (Value.slice A_r (accL l i).length c_r).ownBlock = some q → q ≠ b1)) (fun ⟨i, A_r, c_r⟩ => (l.length - i)) ⟨0, A_r, c_r⟩ (Env.has_cons rfl (Env.has_cons rfl (Env.has_cons rfl (Env.has_cons rfl (Env.has_cons rfl Env.has_nil))))) ⟨Nat.zero_le _, hO, Only.refl _ _, hb_b1, hv_r.le (by omega), (fun q hq => by have := hv_r.2 q hq; omega)⟩ ?_
    clear hO hb_b1 hv_r
    rintro ⟨i, A_r, c_r⟩ w4 ⟨hp, hO, hE_lo1, hb_b1, hv_r, hl_hv_r_b1⟩
    refine W.seq ?_
    refine W.seq ?_
    refine W.region ?_
    refine WL.yield rfl rfl rfl (Yield.move rfl rfl) ?_
    refine WL.yield rfl rfl rfl (Yield.move rfl rfl) ?_
    refine WL.yield rfl rfl rfl (Yield.lenSlice rfl rfl Try.runUnderlying45) ?_
    refine WL.yield rfl rfl rfl (Yield.bin rfl rfl rfl rfl) ?_
    refine WL.fin ?_
    refine Nm.code ?_
    refine W.cond_dec rfl (fun hi => ?_) (fun hi => ?_)
    · have hlt_x : i < l.length := by omega
      obtain ⟨ad, rfl⟩ := hr.addr hlt_x
      obtain ⟨x, hx⟩ := getD_some hlt_x
      have hm := good_may hgood x (List.mem_of_getElem? hx)
      have hf := may_f hm
      have hn64 := x.n.isLt
      have ht64 := x.t.isLt
      refine W.skipN ?_
      refine Nm.code ?_
      refine W.seq ?_
      refine W.block ?_
      refine W.seq ?_
      refine W.region ?_
      refine WL.yield rfl rfl rfl (Yield.move rfl rfl) ?_
      refine WL.yield rfl rfl rfl (Yield.move rfl rfl) ?_
      refine WL.yield rfl rfl rfl (Yield.move rfl rfl) ?_
      refine WL.yield rfl rfl rfl (Yield.indexNat i rfl rfl rfl Try.runUnderlying45 Try.sizeOf66 (by omega)) ?_
      refine WL.yield rfl rfl rfl (Yield.fieldAddr rfl rfl Try.runUnderlying66 rfl Try.sizeOf3) ?_
      refine WL.yield rfl rfl rfl (Yield.load (v := .int .i64 (x.f)) rfl rfl Try.isAgg3 (Rd.at0 (Rd.ext hr hO) hx rfl)) ?_
      refine WL.yield rfl rfl rfl ((Yield.convInt rfl rfl Try.runUnderlying3 Try.runUnderlying32).cast (v' := .int .u64 (((x.f.toNat : Nat) : Int))) (int_eq (by rw [wrap_u64 (by omega) (by omega)]; omega))) ?_
      refine WL.eff _ rfl rfl (Eff.fn rfl rfl Try.call87 (by rintro _ rfl; exact vnum_any _ b1 _ _ (accL l i) hb_b1 hv_r.rd x.f.toNat (by omega) (by have h1 := accL_len l (i := i) (by omega); omega))) ?_
      have hlt_b1_w4 : b1 < w4.heap.size := blk_lt hb_b1
      have hz_w4 := hO.size
      rintro _ w5 ⟨ho_w5, rfl, A_r1, c_r1, hb_new, hc_r1, hv_r1⟩
      replace hb_b1 := hb_new
      replace hO := hO.trans ho_w5 (by intro i hi1 hi2; first | exact hi2 | (exfalso; omega) | (left; exact hi2) | (right; exact hi2) | (right; left; exact hi2))
      replace hv_r := hv_r.only ho_w5 (fun q hq h => absurd (show q = b1 from h) (by have := hv_r.2 q hq; have := hl_hv_r_b1 q hq; omega))
      replace hE_lo1 := hE_lo1.trans ho_w5 (fun i hi1 hi2 => by have h3 : i = b1 := hi2; show i = b1; omega)
      refine WL.fin ?_
      refine Nm.code ?_
      refine W.seq ?_
      refine W.region ?_
      refine WL.yield rfl rfl rfl (Yield.move rfl rfl) ?_
      refine WL.yield rfl rfl rfl (Yield.move rfl rfl) ?_
      refine WL.yield rfl rfl rfl (Yield.move rfl rfl) ?_
      refine WL.yield rfl rfl rfl (Yield.indexNat i rfl rfl rfl Try.runUnderlying45 Try.sizeOf66 (by omega)) ?_
      refine WL.yield rfl rfl rfl (Yield.fieldAddr rfl rfl Try.runUnderlying66 rfl Try.sizeOf32) ?_
      refine WL.yield rfl rfl rfl (Yield.load (v := .int .u64 ((x.n.toNat : Int))) rfl rfl Try.isAgg32 (Rd.at (Rd.ext hr hO) hx 1 _ rfl)) ?_
      refine WL.eff _ rfl rfl (Eff.fn rfl rfl Try.call87 (by rintro _ rfl; exact vnum_any _ b1 _ _ (accL l i ++ lebL x.f.toNat) hb_b1 hv_r1.rd x.n.toNat (by omega) (by have h1 := accL_len l (i := i) (by omega); have h2 := lebL_le x.f.toNat; have h3 := lebL_le x.n.toNat; simp only [List.length_append]; omega))) ?_
      have hlt_b1_w5 : b1 < w5.heap.size := blk_lt hb_b1
      have hz_w5 := hO.size
      rintro _ w6 ⟨ho_w6, rfl, A_r2, c_r2, hb_new, hc_r2, hv_r2⟩
      replace hb_b1 := hb_new
      replace hO := hO.trans ho_w6 (by intro i hi1 hi2; first | exact hi2 | (exfalso; omega) | (left; exact hi2) | (right; exact hi2) | (right; left; exact hi2))
      replace hv_r1 := hv_r1.only ho_w6 (fun q hq h => absurd (show q = b1 from h) (by have := hv_r1.2 q hq; omega))
      replace hE_lo1 := hE_lo1.trans ho_w6 (fun i hi1 hi2 => by have h3 : i = b1 := hi2; show i = b1; omega)
      refine WL.fin ?_
      refine Nm.code ?_
      refine W.region ?_
      refine WL.yield rfl rfl rfl (Yield.move rfl rfl) ?_
      refine WL.yield rfl rfl rfl (Yield.move rfl rfl) ?_
      refine WL.yield rfl rfl rfl (Yield.move rfl rfl) ?_
      refine WL.yield rfl rfl rfl (Yield.indexNat i rfl rfl rfl Try.runUnderlying45 Try.sizeOf66 (by omega)) ?_
      refine WL.yield rfl rfl rfl (Yield.fieldAddr rfl rfl Try.runUnderlying66 rfl Try.sizeOf32) ?_
      refine WL.yield rfl rfl rfl (Yield.load (v := .int .u64 ((x.t.toNat : Int))) rfl rfl Try.isAgg32 (Rd.at (Rd.ext hr hO) hx 2 _ rfl)) ?_
      refine WL.eff _ rfl rfl (Eff.fn rfl rfl Try.call87 (by rintro _ rfl; exact vnum_any _ b1 _ _ ((accL l i ++ lebL x.f.toNat) ++ lebL x.n.toNat) hb_b1 hv_r2.rd x.t.toNat (by omega) (by have h1 := accL_len l (i := i) (by omega); have h2 := lebL_le x.f.toNat; have h3 := lebL_le x.n.toNat; simp only [List.length_append]; omega))) ?_
      have hlt_b1_w6 : b1 < w6.heap.size := blk_lt hb_b1
      have hz_w6 := hO.size
      rintro _ w7 ⟨ho_w7, rfl, A_r3, c_r3, hb_new, hc_r3, hv_r3⟩
      replace hb_b1 := hb_new
      replace hO := hO.trans ho_w7 (by intro i hi1 hi2; first | exact hi2 | (exfalso; omega) | (left; exact hi2) | (right; exact hi2) | (right; left; exact hi2))
      replace hv_r2 := hv_r2.only ho_w7 (fun q hq h => absurd (show q = b1 from h) (by have := hv_r2.2 q hq; omega))
      replace hE_lo1 := hE_lo1.trans ho_w7 (fun i hi1 hi2 => by have h3 : i = b1 := hi2; show i = b1; omega)
      refine WL.fin ?_
      refine Nm.block ?_
      refine Nm.code ?_
      refine W.region ?_
      refine WL.yield rfl rfl rfl (Yield.move rfl rfl) ?_
      refine WL.yield rfl rfl rfl (Yield.ar (v' := .int .i64 (((i + 1 : Nat) : Int))) rfl rfl rfl rfl (int_eq (by rw [wrap_i64 (by omega) (by omega)]; omega))) ?_
      refine WL.yield rfl rfl rfl (Yield.assign rfl rfl) ?_
      refine WL.fin ?_
      have hacc : (((accL l i ++ lebL x.f.toNat) ++ lebL x.n.toNat) ++ lebL x.t.toNat) = accL l (i + 1) := accL_step hx
      rw [hacc] at hb_b1 hv_r3
      have hl_hv_r_b1 : ∀ q, (Value.slice A_r3 (accL l (i + 1)).length c_r3).ownBlock = some q → q ≠ b1 := fun q hq => by have := hv_r3.2 q hq; omega
      have hv_r := hv_r3.le (show w.heap.size ≤ _ by omega)
      refine Nm.again ⟨i + 1, A_r3, c_r3⟩ (Env.has_cons rfl (Env.has_cons rfl (Env.has_cons rfl (Env.has_cons rfl (Env.has_cons rfl Env.has_nil))))) ⟨by omega, hO, hE_lo1, hb_b1, hv_r, hl_hv_r_b1⟩ (by show l.length - (i + 1) < l.length - i; omega)
    · refine W.exitX ?_
      refine Ex.thenX ?_
      refine Ex.thenX ?_
      refine Ex.hit ?_
      refine Nm.code ?_
      refine W.seq ?_
      refine W.region ?_
      refine WL.yield rfl rfl rfl (Yield.move rfl rfl) ?_
      refine WL.yield rfl rfl rfl (Yield.nilCheck rfl rfl) ?_
      refine WL.yield rfl rfl rfl (Yield.fieldAt (k := 0) rfl rfl Try.runUnderlying151 rfl Try.sizeOf33 rfl) ?_
      refine WL.yield rfl rfl rfl (Yield.load (v := .slice (A_r) ((accL l i).length) (c_r)) rfl rfl Try.isAgg33 (cell_get hb_b1 rfl)) ?_
      refine WL.yield rfl rfl rfl (Yield.assign rfl rfl) ?_
      refine WL.fin ?_
      refine Nm.code ?_
      refine W.ret_post (fun _ _ h => h) Try.results41 rfl ?_
      have hi2 : i = l.length := by omega
      subst hi2
      rw [putT_good hgood]
      exact ⟨hO, hv_r.toSl⟩

end Go.Proofs.Ytpnoddfjklcahaa
