import Derived.Test.YtpnoddfjklcahaaTr1

set_option linter.all false
namespace Go.Proofs.Ytpnoddfjklcahaa
open Go Go.Lv Go.RowKit Go.Shoal


theorem good_any (w : World) (A : Option Addr) (c : Nat) (l : List En) (hr : Rd encEn w A l) (hlen : l.length ≤ 100000) :
    Fc Try.prog 21 #[.agg #[.slice (A) (l.length) (c)]] w (fun v w' => Ext w w' ∧ v = .bool (good l)) := by
  refine Fc.enter (args := [.agg #[.slice (A) (l.length) (c)]]) Try.func21 rfl Try.ntmps21 rfl ?_
  intro K_
  have hO : Only (fun _ => False) w w := Only.refl _ _
  refine W.seq ?_
  refine W.region ?_
  refine WL.eff _ rfl rfl (Eff.box rfl rfl) ?_
  rintro _ w1 ⟨_, b1, rfl, hs_b1, rfl, he_w1⟩
  have hb_b1 : w1.heap[b1]? = some (.cells #[.slice (A) (l.length) (c)] 41 (0, 0)) := by rw [he_w1, hs_b1]; exact new_get _ _
  have ho_w1 : Ext w w1 := by rw [he_w1]; exact Ext.alloc _ _
  clear he_w1
  have hn_b1 : w.heap.size ≤ b1 := by rw [hs_b1]; exact hO.size
  replace hO := hO.ext ho_w1
  refine WL.yield rfl rfl rfl (Yield.assign rfl rfl) ?_
  refine WL.fin ?_
  refine Nm.code ?_
  refine W.seq ?_
  refine W.seq ?_
  refine W.region ?_
  refine WL.yield rfl rfl rfl (Yield.fieldAt (k := 0) rfl rfl Try.runUnderlying41 rfl Try.sizeOf39 rfl) ?_
  refine WL.yield rfl rfl rfl (Yield.load (v := .slice (A) (l.length) (c)) rfl rfl Try.isAgg39 (cell_get hb_b1 rfl)) ?_
  refine WL.yield rfl rfl rfl (Yield.lenSlice rfl rfl Try.runUnderlying39) ?_
  refine WL.yield rfl rfl rfl (Yield.move rfl rfl) ?_
  refine WL.fin ?_
  refine Nm.code ?_
  refine W.block ?_
  have hz_w1 := hO.size
  have hlt_b1_w1 : b1 < w1.heap.size := blk_lt hb_b1
  refine W.loop (σ := Nat) (fun i => [(1, .pointer (some ⟨b1, 0, none⟩)), (6, .slice (A) (l.length) (c)), (7, .int .i64 (l.length)), (8, .int .i64 (i)), (2, .bool false)]) (fun i ww => ((i ≤ l.length ∧ goodP (prevO l i) (l.drop i) = goodP none l) ∧ Ext w1 ww)) (fun i => (l.length - i)) 0 (Env.has_cons rfl (Env.has_cons rfl (Env.has_cons rfl (Env.has_cons rfl (Env.has_cons rfl Env.has_nil))))) ⟨⟨Nat.zero_le _, rfl⟩, Ext.refl _⟩ ?_
  rintro i w2 ⟨hp, hE_lo1⟩
  have hb_b1_lo1 := hb_b1
  replace hb_b1 := Ext.get hE_lo1 hb_b1_lo1
  have hO_lo1 := hO
  replace hO := hO_lo1.ext hE_lo1
  refine W.seq ?_
  refine W.region ?_
  refine WL.yield rfl rfl rfl (Yield.bin rfl rfl rfl rfl) ?_
  refine WL.fin ?_
  refine Nm.code ?_
  refine W.seq ?_
  refine W.cond_dec rfl (fun hc0 => ?_) (fun hc0 => ?_)
  · have hlt_x : i < l.length := by omega
    obtain ⟨ad, rfl⟩ := hr.addr hlt_x
    obtain ⟨x, hx⟩ := getD_some hlt_x
    refine W.skipN ?_
    refine Nm.code ?_
    refine W.seq ?_
    refine W.block ?_
    refine W.seq ?_
    refine W.region ?_
    refine WL.yield rfl rfl rfl (Yield.move rfl rfl) ?_
    refine WL.yield rfl rfl rfl (Yield.indexNat i rfl rfl rfl Try.runUnderlying39 Try.sizeOf51 (by omega)) ?_
    refine WL.yield rfl rfl rfl (Yield.loadAgg (cs := [.int .i64 (x.f), .int .u64 ((x.n.toNat : Int)), .int .u64 ((x.t.toNat : Int))]) rfl rfl Try.isAgg51 Try.sizeOf51 (Rd.at (Rd.ext hr hO) hx)) ?_
    refine WL.eff _ rfl rfl (Eff.alloc rfl Try.zeroValue51) ?_
    rintro _ w3 ⟨_, b2, rfl, hs_b2, rfl, he_w3⟩
    have hb_b2 : w3.heap[b2]? = some (.cells #[.int .i64 (0), .int .u64 (0), .int .u64 (0)] 51 (0, 0)) := by rw [he_w3, hs_b2]; exact new_get _ _
    have ho_w3 : Ext w2 w3 := by rw [he_w3]; exact Ext.alloc _ _
    clear he_w3
    have hn_b2 : w.heap.size ≤ b2 := by rw [hs_b2]; exact hO.size
    have hn_b2_hE_lo1 : w1.heap.size ≤ b2 := by rw [hs_b2]; exact hE_lo1.size
    have hq_b1_b2 : b1 < b2 := by rw [hs_b2]; exact blk_lt hb_b1
    replace hb_b1 := ho_w3.get hb_b1
    replace hO := hO.ext ho_w3
    replace hE_lo1 := hE_lo1.ext ho_w3
    refine WL.yield rfl rfl rfl (Yield.assign rfl rfl) ?_
    refine WL.eff _ rfl rfl (Eff.storeBlk (vs := [.int .i64 (x.f), .int .u64 ((x.n.toNat : Int)), .int .u64 ((x.t.toNat : Int))]) (cs := [.int .i64 (0), .int .u64 (0), .int .u64 (0)]) (cs' := [.int .i64 (x.f), .int .u64 ((x.n.toNat : Int)), .int .u64 ((x.t.toNat : Int))]) rfl rfl rfl Try.sizeOf51 rfl (List.forall_mem_cons.2 ⟨rfl, (List.forall_mem_cons.2 ⟨rfl, (List.forall_mem_cons.2 ⟨rfl, (fun _ h => nomatch h)⟩)⟩)⟩) hb_b2 rfl rfl) ?_
    rintro _ w4 ⟨ho_w4, hb_new⟩
    replace hb_b1 := ho_w4.get hb_b1 (by omega)
    replace hb_b2 := hb_new
    replace hO := hO.trans ho_w4 (by intro i hi1 hi2; first | exact hi2 | (exfalso; omega) | (left; exact hi2) | (right; exact hi2) | (right; left; exact hi2))
    replace hE_lo1 := hE_lo1.trans ho_w4 (by intro i hi1 hi2; exfalso; omega)
    refine WL.fin ?_
    refine Nm.code ?_
    refine W.seq ?_
    have hlt_b1_w4 : b1 < w4.heap.size := blk_lt hb_b1
    have hlt_b2_w4 : b2 < w4.heap.size := blk_lt hb_b2
    have hz_w4 := hO.size
    refine W.region_flat 14 Try_follows (by kernel_rfl) (by kernel_rfl) rfl ?_
    refine FL.run (i := 0) [] false (fun v_ _ => v_ = .agg #[.int .i64 (x.f), .int .u64 ((x.n.toNat : Int)), .int .u64 ((x.t.toNat : Int))]) rfl rfl rfl (by kernel_rfl) (Stable.eq _) ?_ ?_
    · intro wb1 ho_wb1
      have hb_b2 := ho_wb1.get hb_b2
      exact And.intro rfl (Eff.reads (Yield.loadAgg (cs := [.int .i64 (x.f), .int .u64 ((x.n.toNat : Int)), .int .u64 ((x.t.toNat : Int))]) rfl rfl Try.isAgg51 Try.sizeOf51 (blk_cells hb_b2 rfl)) rfl)
    refine FL.run (i := 1) [0] false (fun v_ _ => v_ = .bool (may x)) rfl rfl rfl (by kernel_rfl) (Stable.eq _) ?_ ?_
    · intro wb1 ho_wb1
      rintro _ rfl
      exact And.intro rfl (Eff.calls (Eff.fn rfl rfl Try.call66 (by rintro _ rfl; exact may_any _ x)))
    refine FL.run (i := 2) [1] false (fun v_ _ => v_ = .bool (!(may x))) rfl rfl rfl (by kernel_rfl) (Stable.eq _) ?_ ?_
    · intro wb1 ho_wb1
      rintro _ rfl
      exact And.intro rfl (Eff.reads (Yield.not rfl rfl) rfl)
    refine FL.run (i := 3) [2] false (fun v_ _ => v_ = .bool (!(may x))) rfl rfl rfl (by kernel_rfl) (Stable.eq _) ?_ ?_
    · intro wb1 ho_wb1
      rintro _ rfl
      exact And.intro rfl (Eff.reads (Yield.move rfl rfl) rfl)
    rcases Bool.eq_false_or_eq_true (!(may x)) with hg1 | hg1
    · refine FL.skip (i := 4) [3] rfl rfl rfl (by kernel_rfl) ?_ ?_
      · intro wb1 ho_wb1
        rintro _ rfl
        rw [hg1]
        exact rfl
      refine FL.skip (i := 5) [4, 3] rfl rfl rfl (by kernel_rfl) ?_ ?_
      · intro wb1 ho_wb1
        rintro _ rfl
        rintro _ rfl
        rw [hg1]
        exact rfl
      refine FL.skip (i := 6) [5, 3] rfl rfl rfl (by kernel_rfl) ?_ ?_
      · intro wb1 ho_wb1
        rintro _ rfl
        rintro _ rfl
        rw [hg1]
        exact rfl
      refine FL.skip (i := 7) [6] rfl rfl rfl (by kernel_rfl) ?_ ?_
      · intro wb1 ho_wb1
        rintro _ rfl
        exact rfl
      refine FL.skip (i := 8) [7, 6] rfl rfl rfl (by kernel_rfl) ?_ ?_
      · intro wb1 ho_wb1
        rintro _ rfl
        rintro _ rfl
        exact rfl
      refine FL.skip (i := 9) [6] rfl rfl rfl (by kernel_rfl) ?_ ?_
      · intro wb1 ho_wb1
        rintro _ rfl
        exact rfl
      refine FL.skip (i := 10) [9, 6] rfl rfl rfl (by kernel_rfl) ?_ ?_
      · intro wb1 ho_wb1
        rintro _ rfl
        rintro _ rfl
        exact rfl
      refine FL.skip (i := 11) [8, 10, 6] rfl rfl rfl (by kernel_rfl) ?_ ?_
      · intro wb1 ho_wb1
        rintro _ rfl
        rintro _ rfl
        rintro _ rfl
        exact rfl
      refine FL.skip (i := 12) [11, 6] rfl rfl rfl (by kernel_rfl) ?_ ?_
      · intro wb1 ho_wb1
        rintro _ rfl
        rintro _ rfl
        exact rfl
      refine FL.skip (i := 13) [6] rfl rfl rfl (by kernel_rfl) ?_ ?_
      · intro wb1 ho_wb1
        rintro _ rfl
        exact rfl
      refine FL.fin rfl [3, 6, 12, 13] ?_
      intro w5 ho_w5
      rintro _ rfl
      rw [hg1]
      rintro _ rfl
      rintro _ rfl
      rintro _ rfl
      intro _
      show WL _ _ _ _ _ _ _ _
      replace hb_b1 := ho_w5.get hb_b1
      replace hb_b2 := ho_w5.get hb_b2
      replace hO := hO.ext ho_w5
      replace hE_lo1 := hE_lo1.ext ho_w5
      refine WL.skip_g rfl rfl rfl ?_
      refine WL.skip_g rfl rfl rfl ?_
      refine WL.skip_g rfl rfl rfl ?_
      refine WL.yield rfl rfl rfl (Yield.pick_t rfl rfl rfl) ?_
      refine WL.fin ?_
      refine Nm.code ?_
      refine W.cond_true rfl ?_
      refine W.seq ?_
      refine W.region ?_
      refine WL.yield rfl rfl rfl (Yield.assign rfl rfl) ?_
      refine WL.fin ?_
      refine Nm.code ?_
      refine W.ret_post (fun _ _ h => h) Try.results21 rfl ?_
      refine ⟨hO, bool_eq ?_⟩
      unfold good
      rw [← hp.2]
      first | (rw [good_end (by omega)]; done) | (rw [good_step hx]; simp_all [okp]; done) | (rw [good_step hx]; simp_all [okp]; omega)
    · refine FL.run (i := 4) [3] false (fun v_ _ => v_ = .int .i64 (i)) rfl rfl rfl (by kernel_rfl) (Stable.eq _) ?_ ?_
      · intro wb1 ho_wb1
        rintro _ rfl
        rw [hg1]
        exact And.intro rfl (Eff.reads (Yield.move rfl rfl) rfl)
      refine FL.run (i := 5) [4, 3] false (fun v_ _ => v_ = .bool (decide (i > 0))) rfl rfl rfl (by kernel_rfl) (Stable.eq _) ?_ ?_
      · intro wb1 ho_wb1
        rintro _ rfl
        rintro _ rfl
        rw [hg1]
        exact And.intro rfl (Eff.reads (Yield.ar (v' := .bool (decide (i > 0))) rfl rfl rfl rfl (bool_dec (by omega))) rfl)
      refine FL.run (i := 6) [5, 3] false (fun v_ _ => v_ = .bool (decide (i > 0))) rfl rfl rfl (by kernel_rfl) (Stable.eq _) ?_ ?_
      · intro wb1 ho_wb1
        rintro _ rfl
        rintro _ rfl
        rw [hg1]
        exact And.intro rfl (Eff.reads (Yield.move rfl rfl) rfl)
      by_cases hpos : i > 0
      · have hlt_y : (i - 1) < l.length := by omega
        obtain ⟨y, hy⟩ := getD_some hlt_y
        have hpv := prevO_pos (by omega) hy
        refine FL.run (i := 7) [6] false (fun v_ _ => v_ = .pointer (some ⟨b1, 0, none⟩)) rfl rfl rfl (by kernel_rfl) (Stable.eq _) ?_ ?_
        · intro wb1 ho_wb1
          rintro _ rfl
          rw [decide_eq_true hpos]
          exact And.intro rfl (Eff.reads (Yield.fieldAt (k := 0) rfl rfl Try.runUnderlying41 rfl Try.sizeOf39 rfl) rfl)
        refine FL.run (i := 8) [7, 6] false (fun v_ _ => v_ = .slice (some ad) (l.length) (c)) rfl rfl rfl (by kernel_rfl) (Stable.eq _) ?_ ?_
        · intro wb1 ho_wb1
          rintro _ rfl
          rintro _ rfl
          rw [decide_eq_true hpos]
          have hb_b1 := ho_wb1.get hb_b1
          exact And.intro rfl (Eff.reads (Yield.load (v := .slice (some ad) (l.length) (c)) rfl rfl Try.isAgg39 (cell_get hb_b1 rfl)) rfl)
        refine FL.run (i := 9) [6] false (fun v_ _ => v_ = .int .i64 (i)) rfl rfl rfl (by kernel_rfl) (Stable.eq _) ?_ ?_
        · intro wb1 ho_wb1
          rintro _ rfl
          rw [decide_eq_true hpos]
          exact And.intro rfl (Eff.reads (Yield.move rfl rfl) rfl)
        refine FL.run (i := 10) [9, 6] false (fun v_ _ => v_ = .int .i64 (((i - 1 : Nat) : Int))) rfl rfl rfl (by kernel_rfl) (Stable.eq _) ?_ ?_
        · intro wb1 ho_wb1
          rintro _ rfl
          rintro _ rfl
          rw [decide_eq_true hpos]
          exact And.intro rfl (Eff.reads (Yield.ar (v' := .int .i64 (((i - 1 : Nat) : Int))) rfl rfl rfl rfl (int_eq (by rw [wrap_i64 (by omega) (by omega)]; omega))) rfl)
        refine FL.run (i := 11) [8, 10, 6] false (fun v_ _ => v_ = .pointer (some ((ad).add ((i - 1) * 3)))) rfl rfl rfl (by kernel_rfl) (Stable.eq _) ?_ ?_
        · intro wb1 ho_wb1
          rintro _ rfl
          rintro _ rfl
          rintro _ rfl
          rw [decide_eq_true hpos]
          exact And.intro rfl (Eff.reads (Yield.indexNat (i - 1) rfl rfl rfl Try.runUnderlying39 Try.sizeOf51 (by omega)) rfl)
        refine FL.run (i := 12) [11, 6] false (fun v_ _ => v_ = .agg #[.int .i64 (y.f), .int .u64 ((y.n.toNat : Int)), .int .u64 ((y.t.toNat : Int))]) rfl rfl rfl (by kernel_rfl) (Stable.eq _) ?_ ?_
        · intro wb1 ho_wb1
          rintro _ rfl
          rintro _ rfl
          rw [decide_eq_true hpos]
          have hO := hO.ext ho_wb1
          exact And.intro rfl (Eff.reads (Yield.loadAgg (cs := [.int .i64 (y.f), .int .u64 ((y.n.toNat : Int)), .int .u64 ((y.t.toNat : Int))]) rfl rfl Try.isAgg51 Try.sizeOf51 (Rd.at (Rd.ext hr hO) hy)) rfl)
        refine FL.run (i := 13) [6] false (fun v_ _ => v_ = .agg #[.int .i64 (x.f), .int .u64 ((x.n.toNat : Int)), .int .u64 ((x.t.toNat : Int))]) rfl rfl rfl (by kernel_rfl) (Stable.eq _) ?_ ?_
        · intro wb1 ho_wb1
          rintro _ rfl
          rw [decide_eq_true hpos]
          have hb_b2 := ho_wb1.get hb_b2
          exact And.intro rfl (Eff.reads (Yield.loadAgg (cs := [.int .i64 (x.f), .int .u64 ((x.n.toNat : Int)), .int .u64 ((x.t.toNat : Int))]) rfl rfl Try.isAgg51 Try.sizeOf51 (blk_cells hb_b2 rfl)) rfl)
        refine FL.fin rfl [3, 6, 12, 13] ?_
        intro w6 ho_w6
        rintro _ rfl
        rw [hg1]
        rintro _ rfl
        rw [decide_eq_true hpos]
        rintro _ rfl
        rintro _ rfl
        intro _
        show WL _ _ _ _ _ _ _ _
        replace hb_b1 := ho_w6.get hb_b1
        replace hb_b2 := ho_w6.get hb_b2
        replace hO := hO.ext ho_w6
        replace hE_lo1 := hE_lo1.ext ho_w6
        refine WL.eff _ rfl rfl (Eff.fn rfl rfl Try.call67 (by rintro _ rfl; exact order_any _ y x)) ?_
        have hlt_b1_w6 : b1 < w6.heap.size := blk_lt hb_b1
        have hlt_b2_w6 : b2 < w6.heap.size := blk_lt hb_b2
        have hz_w6 := hO.size
        rintro _ w7 ⟨ho_w7, rfl⟩
        replace hb_b1 := ho_w7.get hb_b1
        replace hb_b2 := ho_w7.get hb_b2
        replace hO := hO.ext ho_w7
        replace hE_lo1 := hE_lo1.ext ho_w7
        refine WL.yield_g rfl rfl rfl (Yield.bin rfl rfl rfl rfl) ?_
        refine WL.yield_g rfl rfl rfl (Yield.pick_t rfl rfl rfl) ?_
        refine WL.yield rfl rfl rfl (Yield.pick_f rfl rfl rfl) ?_
        refine WL.fin ?_
        refine Nm.code ?_
        refine W.cond_dec rfl (fun hc1 => ?_) (fun hc1 => ?_)
        · refine W.seq ?_
          refine W.region ?_
          refine WL.yield rfl rfl rfl (Yield.assign rfl rfl) ?_
          refine WL.fin ?_
          refine Nm.code ?_
          refine W.ret_post (fun _ _ h => h) Try.results21 rfl ?_
          refine ⟨hO, bool_eq ?_⟩
          unfold good
          rw [← hp.2]
          first | (rw [good_end (by omega)]; done) | (rw [good_step hx]; simp_all [okp]; done) | (rw [good_step hx]; simp_all [okp]; omega)
        · refine W.skipN ?_
          refine Nm.block ?_
          refine Nm.code ?_
          refine W.region ?_
          refine WL.yield rfl rfl rfl (Yield.ar (v' := .int .i64 (((i + 1 : Nat) : Int))) rfl rfl rfl rfl (int_eq (by rw [wrap_i64 (by omega) (by omega)]; omega))) ?_
          refine WL.yield rfl rfl rfl (Yield.move rfl rfl) ?_
          refine WL.fin ?_
          refine Nm.again (i + 1) (Env.has_cons rfl (Env.has_cons rfl (Env.has_cons rfl (Env.has_cons rfl (Env.has_cons rfl Env.has_nil))))) ⟨⟨by omega, by rw [← hp.2, good_step hx]; simp_all [okp]⟩, hE_lo1⟩ (by omega)
      · have hpv := prevO_zero (l := l) hpos
        refine FL.skip (i := 7) [6] rfl rfl rfl (by kernel_rfl) ?_ ?_
        · intro wb1 ho_wb1
          rintro _ rfl
          rw [decide_eq_false hpos]
          exact rfl
        refine FL.skip (i := 8) [7, 6] rfl rfl rfl (by kernel_rfl) ?_ ?_
        · intro wb1 ho_wb1
          rintro _ rfl
          rintro _ rfl
          rw [decide_eq_false hpos]
          exact rfl
        refine FL.skip (i := 9) [6] rfl rfl rfl (by kernel_rfl) ?_ ?_
        · intro wb1 ho_wb1
          rintro _ rfl
          rw [decide_eq_false hpos]
          exact rfl
        refine FL.skip (i := 10) [9, 6] rfl rfl rfl (by kernel_rfl) ?_ ?_
        · intro wb1 ho_wb1
          rintro _ rfl
          rintro _ rfl
          rw [decide_eq_false hpos]
          exact rfl
        refine FL.skip (i := 11) [8, 10, 6] rfl rfl rfl (by kernel_rfl) ?_ ?_
        · intro wb1 ho_wb1
          rintro _ rfl
          rintro _ rfl
          rintro _ rfl
          rw [decide_eq_false hpos]
          exact rfl
        refine FL.skip (i := 12) [11, 6] rfl rfl rfl (by kernel_rfl) ?_ ?_
        · intro wb1 ho_wb1
          rintro _ rfl
          rintro _ rfl
          rw [decide_eq_false hpos]
          exact rfl
        refine FL.skip (i := 13) [6] rfl rfl rfl (by kernel_rfl) ?_ ?_
        · intro wb1 ho_wb1
          rintro _ rfl
          rw [decide_eq_false hpos]
          exact rfl
        refine FL.fin rfl [3, 6, 12, 13] ?_
        intro w8 ho_w8
        rintro _ rfl
        rw [hg1]
        rintro _ rfl
        rw [decide_eq_false hpos]
        rintro _ rfl
        rintro _ rfl
        intro _
        show WL _ _ _ _ _ _ _ _
        replace hb_b1 := ho_w8.get hb_b1
        replace hb_b2 := ho_w8.get hb_b2
        replace hO := hO.ext ho_w8
        replace hE_lo1 := hE_lo1.ext ho_w8
        refine WL.skip_g rfl rfl rfl ?_
        refine WL.skip_g rfl rfl rfl ?_
        refine WL.yield_g rfl rfl rfl (Yield.pick_f rfl rfl rfl) ?_
        refine WL.yield rfl rfl rfl (Yield.pick_f rfl rfl rfl) ?_
        refine WL.fin ?_
        refine Nm.code ?_
        refine W.cond_false rfl ?_
        refine W.skipN ?_
        refine Nm.block ?_
        refine Nm.code ?_
        refine W.region ?_
        refine WL.yield rfl rfl rfl (Yield.ar (v' := .int .i64 (((i + 1 : Nat) : Int))) rfl rfl rfl rfl (int_eq (by rw [wrap_i64 (by omega) (by omega)]; omega))) ?_
        refine WL.yield rfl rfl rfl (Yield.move rfl rfl) ?_
        refine WL.fin ?_
        refine Nm.again (i + 1) (Env.has_cons rfl (Env.has_cons rfl (Env.has_cons rfl (Env.has_cons rfl (Env.has_cons rfl Env.has_nil))))) ⟨⟨by omega, by rw [← hp.2, good_step hx]; simp_all [okp]⟩, hE_lo1⟩ (by omega)
  · refine W.exitX ?_
    refine Ex.thenX ?_
    refine Ex.thenX ?_
    refine Ex.hit ?_
    refine Nm.code ?_
    refine W.seq ?_
    refine W.region ?_
    refine WL.yield rfl rfl rfl (Yield.assign rfl rfl) ?_
    refine WL.fin ?_
    refine Nm.code ?_
    refine W.ret_post (fun _ _ h => h) Try.results21 rfl ?_
    refine ⟨hO, bool_eq ?_⟩
    unfold good
    rw [← hp.2]
    first | (rw [good_end (by omega)]; done) | (rw [good_step hx]; simp_all [okp]; done) | (rw [good_step hx]; simp_all [okp]; omega)

theorem clone_slice (w : World) (A : Option Addr) (c : Nat) (l : List En) (hr : Rd encEn w A l) (hlen : l.length ≤ 100000) :
    Fc Try.prog 112 #[.slice (A) (l.length) (c)] w (fun v w' => Ext w w' ∧ NwSl w.heap.size encEn 51 l v w') := by
  refine Fc.enter (args := [.slice (A) (l.length) (c)]) Try.func112 rfl Try.ntmps112 rfl ?_
  intro K_
  have hO : Only (fun _ => False) w w := Only.refl _ _
  refine W.seq ?_
  refine W.region ?_
  refine WL.yield rfl rfl rfl (Yield.assign rfl rfl) ?_
  refine WL.fin ?_
  refine Nm.code ?_
  refine W.seq ?_
  refine W.seq ?_
  refine W.region ?_
  refine WL.yield rfl rfl rfl (Yield.move rfl rfl) ?_
  refine WL.yield rfl rfl rfl (Yield.eqSliceNil rfl rfl rfl Try.underlying39) ?_
  refine WL.fin ?_
  refine Nm.code ?_
  refine W.cond rfl (fun hc0 => ?_) (fun hc0 => ?_)
  · refine W.seq ?_
    refine W.region ?_
    refine WL.yield rfl rfl rfl (Yield.assign rfl rfl) ?_
    refine WL.fin ?_
    refine Nm.code ?_
    refine W.ret_post (fun _ _ h => h) Try.results112 rfl ?_
    exact ⟨hO, by rw [hr.none_nil hc0]; exact (Nw.nil _ _ _ _).toSl⟩
  · refine W.skipN ?_
    refine Nm.code ?_
    refine W.seq ?_
    refine W.region ?_
    refine WL.eff _ rfl rfl (Eff.buildEmpty rfl Try.runUnderlying39 Try.sizeOf51) ?_
    rintro _ w1 ⟨_, b1, rfl, hs_b1, rfl, he_w1⟩
    have hb_b1 : w1.heap[b1]? = some (.cells #[] 51 (0, 0)) := by rw [he_w1, hs_b1]; exact new_get _ _
    have ho_w1 : Ext w w1 := by rw [he_w1]; exact Ext.alloc _ _
    clear he_w1
    have hn_b1 : w.heap.size ≤ b1 := by rw [hs_b1]; exact hO.size
    replace hO := hO.ext ho_w1
    refine WL.yield rfl rfl rfl (Yield.move rfl rfl) ?_
    have hv0 : Nw w.heap.size encEn 51 [] (.slice (some ⟨b1, 0, none⟩) 0 0) w1 := ⟨Own.fresh hb_b1 rfl (by decide), fun b hb => by simp only [Value.ownBlock, Option.some.injEq] at hb; omega⟩
    refine WL.eff _ rfl rfl (Eff.push (E := encEn) (xs := []) (ys := l) (bytes := 24) (i := Try.t51) (z := .agg #[.int .i64 (0), .int .u64 (0), .int .u64 (0)]) rfl rfl rfl rfl Try.underlying39 Try.underlying39 (by kernel_rfl) rfl rfl rfl rfl hO hO.size (Nat.le_refl _) hv0 (hr.ext hO) rfl (by show (0 + l.length) * _ ≤ _; omega)) ?_
    rintro v_v1 w2 ⟨hO, hv_v1, ho_w2⟩
    obtain ⟨A_v1, c_v1, rfl, hc_v1, hv_v1⟩ := hv_v1.toSl
    refine WL.yield rfl rfl rfl (Yield.assign rfl rfl) ?_
    refine WL.fin ?_
    refine Nm.code ?_
    refine W.ret_post (fun _ _ h => h) Try.results112 rfl ?_
    exact ⟨hO, hv_v1.toSl⟩

theorem clone_log (w : World) (A : Option Addr) (c : Nat) (l : List En) (hr : Rd encEn w A l) (hlen : l.length ≤ 100000) :
    Fc Try.prog 68 #[.agg #[.slice (A) (l.length) (c)]] w (fun v w' => Ext w w' ∧ NwLg w.heap.size encEn 51 l v w') := by
  refine Fc.enter (args := [.agg #[.slice (A) (l.length) (c)]]) Try.func68 rfl Try.ntmps68 rfl ?_
  intro K_
  have hO : Only (fun _ => False) w w := Only.refl _ _
  refine W.seq ?_
  refine W.region ?_
  refine WL.eff _ rfl rfl (Eff.box rfl rfl) ?_
  rintro _ w1 ⟨_, b1, rfl, hs_b1, rfl, he_w1⟩
  have hb_b1 : w1.heap[b1]? = some (.cells #[.slice (A) (l.length) (c)] 41 (0, 0)) := by rw [he_w1, hs_b1]; exact new_get _ _
  have ho_w1 : Ext w w1 := by rw [he_w1]; exact Ext.alloc _ _
  clear he_w1
  have hn_b1 : w.heap.size ≤ b1 := by rw [hs_b1]; exact hO.size
  replace hO := hO.ext ho_w1
  refine WL.eff _ rfl rfl (Eff.alloc rfl Try.zeroValue41) ?_
  rintro _ w2 ⟨_, b2, rfl, hs_b2, rfl, he_w2⟩
  have hb_b2 : w2.heap[b2]? = some (.cells #[.slice (none) (0) (0)] 41 (0, 0)) := by rw [he_w2, hs_b2]; exact new_get _ _
  have ho_w2 : Ext w1 w2 := by rw [he_w2]; exact Ext.alloc _ _
  clear he_w2
  have hn_b2 : w.heap.size ≤ b2 := by rw [hs_b2]; exact hO.size
  have hq_b1_b2 : b1 < b2 := by rw [hs_b2]; exact blk_lt hb_b1
  replace hb_b1 := ho_w2.get hb_b1
  replace hO := hO.ext ho_w2
  refine WL.fin ?_
  refine Nm.code ?_
  refine W.seq ?_
  refine W.region ?_
  refine WL.yield rfl rfl rfl (Yield.fieldAt (k := 0) rfl rfl Try.runUnderlying41 rfl Try.sizeOf39 rfl) ?_
  refine WL.yield rfl rfl rfl (Yield.load (v := .slice (A) (l.length) (c)) rfl rfl Try.isAgg39 (cell_get hb_b1 rfl)) ?_
  refine WL.eff _ rfl rfl (Eff.fn rfl rfl Try.call112 (by rintro _ rfl; exact clone_slice _ _ _ _ (hr.ext hO) hlen)) ?_
  have hlt_b1_w2 : b1 < w2.heap.size := blk_lt hb_b1
  have hlt_b2_w2 : b2 < w2.heap.size := blk_lt hb_b2
  have hz_w2 := hO.size
  rintro _ w3 ⟨ho_w3, ⟨A_5, c_5, rfl, hc_5, hv_5⟩⟩
  replace hb_b1 := ho_w3.get hb_b1
  replace hb_b2 := ho_w3.get hb_b2
  replace hO := hO.ext ho_w3
  refine WL.yield rfl rfl rfl (Yield.build (cells := #[.slice (A_5) (l.length) (c_5)]) rfl rfl (by kernel_rfl)) ?_
  refine WL.eff _ rfl rfl (Eff.storeBlk (vs := [.slice (A_5) (l.length) (c_5)]) (cs := [.slice (none) (0) (0)]) (cs' := [.slice (A_5) (l.length) (c_5)]) rfl rfl rfl Try.sizeOf41 rfl (List.forall_mem_cons.2 ⟨rfl, (fun _ h => nomatch h)⟩) hb_b2 rfl rfl) ?_
  rintro _ w4 ⟨ho_w4, hb_new⟩
  replace hb_b1 := ho_w4.get hb_b1 (by omega)
  replace hb_b2 := hb_new
  replace hO := hO.trans ho_w4 (by intro i hi1 hi2; first | exact hi2 | (exfalso; omega) | (left; exact hi2) | (right; exact hi2) | (right; left; exact hi2))
  replace hv_5 := hv_5.only ho_w4 (fun q hq h => absurd (show q = b2 from h) (by have := hv_5.2 q hq; omega))
  refine WL.fin ?_
  refine Nm.code ?_
  refine W.ret_postW (fun _ _ h => h) Try.results68 (resW_cell rfl (loadVar_agg (cs := [.slice (A_5) (l.length) (c_5)]) Try.isAgg41 Try.sizeOf41 (blk_cells hb_b2 rfl)) resW_nil) ?_
  exact ⟨hO, _, _, rfl, hc_5, hv_5.le hz_w2⟩

end Go.Proofs.Ytpnoddfjklcahaa
