import Derived.Test.YtpnoddfjklcahaaTr4

set_option linter.all false
namespace Go.Proofs.Ytpnoddfjklcahaa
open Go Go.Lv Go.RowKit Go.Shoal


theorem bs_any (w : World) (A : Option Addr) (c : Nat) (l : List En) (hr : Rd encEn w A l) (hlen : l.length ≤ 100000) (hg : good l = true) (x : En) :
    Fc Try.prog 70 #[.slice (A) (l.length) (c), .agg #[.int .i64 (x.f), .int .u64 ((x.n.toNat : Int)), .int .u64 ((x.t.toNat : Int))], .func (.func 67) #[] #[]] w (fun v w' => Ext w w' ∧ v = .tuple #[.int .i64 (pos l x), .bool (there l x)]) := by
  have hrise := good_rise hg
  refine Fc.enter (args := [.slice (A) (l.length) (c), .agg #[.int .i64 (x.f), .int .u64 ((x.n.toNat : Int)), .int .u64 ((x.t.toNat : Int))], .func (.func 67) #[] #[]]) Try.func70 rfl Try.ntmps70 rfl ?_
  intro K_
  have hO : Only (fun _ => False) w w := Only.refl _ _
  refine W.seq ?_
  refine W.region ?_
  refine WL.eff _ rfl rfl (Eff.box rfl rfl) ?_
  rintro _ w1 ⟨_, b1, rfl, hs_b1, rfl, he_w1⟩
  have hb_b1 : w1.heap[b1]? = some (.cells #[.int .i64 (x.f), .int .u64 ((x.n.toNat : Int)), .int .u64 ((x.t.toNat : Int))] 51 (0, 0)) := by rw [he_w1, hs_b1]; exact new_get _ _
  have ho_w1 : Ext w w1 := by rw [he_w1]; exact Ext.alloc _ _
  clear he_w1
  have hn_b1 : w.heap.size ≤ b1 := by rw [hs_b1]; exact hO.size
  replace hO := hO.ext ho_w1
  refine WL.yield rfl rfl rfl (Yield.assign rfl rfl) ?_
  refine WL.yield rfl rfl rfl (Yield.assign rfl rfl) ?_
  refine WL.fin ?_
  refine Nm.code ?_
  refine W.seq ?_
  refine W.region ?_
  refine WL.yield rfl rfl rfl (Yield.move rfl rfl) ?_
  refine WL.yield rfl rfl rfl (Yield.lenSlice rfl rfl Try.runUnderlying39) ?_
  refine WL.yield rfl rfl rfl (Yield.assign rfl rfl) ?_
  refine WL.fin ?_
  refine Nm.code ?_
  refine W.seq ?_
  refine W.region ?_
  refine WL.yield rfl rfl rfl (Yield.move rfl rfl) ?_
  refine WL.yield rfl rfl rfl (Yield.assign rfl rfl) ?_
  refine WL.yield rfl rfl rfl (Yield.assign rfl rfl) ?_
  refine WL.fin ?_
  refine Nm.code ?_
  refine W.seq ?_
  refine W.block ?_
  have hz_w1 := hO.size
  have hlt_b1_w1 : b1 < w1.heap.size := blk_lt hb_b1
  refine W.loop (σ := Nat × Nat) (fun ⟨i, j⟩ => [(0, .slice (A) (l.length) (c)), (2, .func (.func 67) #[] #[]), (4, .pointer (some ⟨b1, 0, none⟩)), (6, .int .i64 (0)), (7, .bool false), (8, .int .i64 (l.length)), (9, .int .i64 (i)), (10, .int .i64 (j))]) (fun ⟨i, j⟩ ww => ((i ≤ j ∧ j ≤ l.length ∧ (∀ k z, k < i → l[k]? = some z → ord z x < 0) ∧ (∀ k z, j ≤ k → l[k]? = some z → ord z x ≥ 0)) ∧ Ext w1 ww)) (fun ⟨i, j⟩ => (j - i)) ⟨0, l.length⟩ (Env.has_cons rfl (Env.has_cons rfl (Env.has_cons rfl (Env.has_cons rfl (Env.has_cons rfl (Env.has_cons rfl (Env.has_cons rfl (Env.has_cons rfl Env.has_nil)))))))) ⟨⟨Nat.zero_le _, Nat.le_refl _, fun k z h => absurd h (Nat.not_lt_zero _), fun k z h1 h2 => by rw [List.getElem?_eq_none h1] at h2; cases h2⟩, Ext.refl _⟩ ?_
  rintro ⟨i, j⟩ w2 ⟨hp, hE_lo1⟩
  have hb_b1_lo1 := hb_b1
  replace hb_b1 := Ext.get hE_lo1 hb_b1_lo1
  have hO_lo1 := hO
  replace hO := hO_lo1.ext hE_lo1
  refine W.seq ?_
  refine W.seq ?_
  refine W.region ?_
  refine WL.yield rfl rfl rfl (Yield.move rfl rfl) ?_
  refine WL.yield rfl rfl rfl (Yield.move rfl rfl) ?_
  refine WL.yield rfl rfl rfl (Yield.bin rfl rfl rfl rfl) ?_
  refine WL.fin ?_
  refine Nm.code ?_
  refine W.cond_dec rfl (fun hi => ?_) (fun hi => ?_)
  · have hlt_y : ((i + j) / 2) < l.length := by omega
    obtain ⟨ad, rfl⟩ := hr.addr hlt_y
    obtain ⟨y, hy⟩ := getD_some hlt_y
    refine W.skipN ?_
    refine Nm.code ?_
    refine W.block ?_
    refine W.seq ?_
    refine W.region ?_
    refine WL.yield rfl rfl rfl (Yield.move rfl rfl) ?_
    refine WL.yield rfl rfl rfl (Yield.move rfl rfl) ?_
    refine WL.yield rfl rfl rfl (Yield.ar (v' := .int .i64 (((i + j : Nat) : Int))) rfl rfl rfl rfl (int_eq (by rw [wrap_i64 (by omega) (by omega)]; omega))) ?_
    refine WL.yield rfl rfl rfl ((Yield.convInt rfl rfl Try.runUnderlying3 Try.runUnderlying147).cast (v' := .int .u64 (((i + j : Nat) : Int))) (int_eq (wrap_u64 (by omega) (by omega)))) ?_
    refine WL.yield rfl rfl rfl ((Yield.shr rfl rfl rfl (by omega)).cast (int_eq (shr_half _))) ?_
    refine WL.yield rfl rfl rfl ((Yield.convInt rfl rfl Try.runUnderlying147 Try.runUnderlying3).cast (v' := .int .i64 ((((i + j) / 2 : Nat) : Int))) (int_eq (wrap_i64 (by omega) (by omega)))) ?_
    refine WL.yield rfl rfl rfl (Yield.assign rfl rfl) ?_
    refine WL.fin ?_
    refine Nm.code ?_
    refine W.seq ?_
    have hlt_b1_w2 : b1 < w2.heap.size := blk_lt hb_b1
    have hz_w2 := hO.size
    refine W.region_flat 6 Try_follows (by kernel_rfl) (by kernel_rfl) rfl ?_
    refine FL.run (i := 0) [] false (fun v_ _ => v_ = .func (.func 67) #[] #[]) rfl rfl rfl (by kernel_rfl) (Stable.eq _) ?_ ?_
    · intro wb1 ho_wb1
      exact And.intro rfl (Eff.reads (Yield.move rfl rfl) rfl)
    refine FL.run (i := 1) [] false (fun v_ _ => v_ = .slice (some ad) (l.length) (c)) rfl rfl rfl (by kernel_rfl) (Stable.eq _) ?_ ?_
    · intro wb1 ho_wb1
      exact And.intro rfl (Eff.reads (Yield.move rfl rfl) rfl)
    refine FL.run (i := 2) [] false (fun v_ _ => v_ = .int .i64 ((((i + j) / 2 : Nat) : Int))) rfl rfl rfl (by kernel_rfl) (Stable.eq _) ?_ ?_
    · intro wb1 ho_wb1
      exact And.intro rfl (Eff.reads (Yield.move rfl rfl) rfl)
    refine FL.run (i := 3) [1, 2] false (fun v_ _ => v_ = .pointer (some ((ad).add (((i + j) / 2) * 3)))) rfl rfl rfl (by kernel_rfl) (Stable.eq _) ?_ ?_
    · intro wb1 ho_wb1
      rintro _ rfl
      rintro _ rfl
      exact And.intro rfl (Eff.reads (Yield.indexNat ((i + j) / 2) rfl rfl rfl Try.runUnderlying39 Try.sizeOf51 (by omega)) rfl)
    refine FL.run (i := 4) [3] false (fun v_ _ => v_ = .agg #[.int .i64 (y.f), .int .u64 ((y.n.toNat : Int)), .int .u64 ((y.t.toNat : Int))]) rfl rfl rfl (by kernel_rfl) (Stable.eq _) ?_ ?_
    · intro wb1 ho_wb1
      rintro _ rfl
      have hO := hO.ext ho_wb1
      exact And.intro rfl (Eff.reads (Yield.loadAgg (cs := [.int .i64 (y.f), .int .u64 ((y.n.toNat : Int)), .int .u64 ((y.t.toNat : Int))]) rfl rfl Try.isAgg51 Try.sizeOf51 (Rd.at (Rd.ext hr hO) hy)) rfl)
    refine FL.run (i := 5) [] false (fun v_ _ => v_ = .agg #[.int .i64 (x.f), .int .u64 ((x.n.toNat : Int)), .int .u64 ((x.t.toNat : Int))]) rfl rfl rfl (by kernel_rfl) (Stable.eq _) ?_ ?_
    · intro wb1 ho_wb1
      have hb_b1 := ho_wb1.get hb_b1
      exact And.intro rfl (Eff.reads (Yield.loadAgg (cs := [.int .i64 (x.f), .int .u64 ((x.n.toNat : Int)), .int .u64 ((x.t.toNat : Int))]) rfl rfl Try.isAgg51 Try.sizeOf51 (blk_cells hb_b1 rfl)) rfl)
    refine FL.fin rfl [0, 4, 5] ?_
    intro w3 ho_w3
    rintro _ rfl
    rintro _ rfl
    rintro _ rfl
    intro _
    show WL _ _ _ _ _ _ _ _
    replace hb_b1 := ho_w3.get hb_b1
    replace hO := hO.ext ho_w3
    replace hE_lo1 := hE_lo1.ext ho_w3
    refine WL.eff _ rfl rfl (Eff.call rfl rfl rfl Try.call67 (by rintro _ rfl; exact order_any _ y x)) ?_
    have hlt_b1_w3 : b1 < w3.heap.size := blk_lt hb_b1
    have hz_w3 := hO.size
    rintro _ w4 ⟨ho_w4, rfl⟩
    replace hb_b1 := ho_w4.get hb_b1
    replace hO := hO.ext ho_w4
    replace hE_lo1 := hE_lo1.ext ho_w4
    refine WL.yield rfl rfl rfl (Yield.bin rfl rfl rfl rfl) ?_
    refine WL.fin ?_
    refine Nm.code ?_
    refine W.cond_dec rfl (fun hc1 => ?_) (fun hc1 => ?_)
    · refine W.region ?_
      refine WL.yield rfl rfl rfl (Yield.move rfl rfl) ?_
      refine WL.yield rfl rfl rfl (Yield.ar (v' := .int .i64 ((((i + j) / 2 + 1 : Nat) : Int))) rfl rfl rfl rfl (int_eq (by rw [wrap_i64 (by omega) (by omega)]; omega))) ?_
      refine WL.yield rfl rfl rfl (Yield.assign rfl rfl) ?_
      refine WL.fin ?_
      refine Nm.block ?_
      refine Nm.again ⟨((i + j) / 2) + 1, j⟩ (Env.has_cons rfl (Env.has_cons rfl (Env.has_cons rfl (Env.has_cons rfl (Env.has_cons rfl (Env.has_cons rfl (Env.has_cons rfl (Env.has_cons rfl Env.has_nil)))))))) ⟨⟨by omega, by omega, upto_low hrise hy hc1, hp.2.2.2⟩, hE_lo1⟩ (by show j - (((i + j) / 2) + 1) < j - i; omega)
    · refine W.region ?_
      refine WL.yield rfl rfl rfl (Yield.move rfl rfl) ?_
      refine WL.yield rfl rfl rfl (Yield.assign rfl rfl) ?_
      refine WL.fin ?_
      refine Nm.block ?_
      refine Nm.again ⟨i, ((i + j) / 2)⟩ (Env.has_cons rfl (Env.has_cons rfl (Env.has_cons rfl (Env.has_cons rfl (Env.has_cons rfl (Env.has_cons rfl (Env.has_cons rfl (Env.has_cons rfl Env.has_nil)))))))) ⟨⟨by omega, by omega, hp.2.2.1, from_high hrise hy hc1⟩, hE_lo1⟩ (by show ((i + j) / 2) - i < j - i; omega)
  · refine W.exitX ?_
    refine Ex.thenX ?_
    refine Ex.thenX ?_
    refine Ex.hit ?_
    refine Nm.code ?_
    refine W.seq ?_
    have hlt_b1_w2 : b1 < w2.heap.size := blk_lt hb_b1
    have hz_w2 := hO.size
    refine W.weaken (k := [(0, .slice (A) (l.length) (c)), (2, .func (.func 67) #[] #[]), (4, .pointer (some ⟨b1, 0, none⟩)), (7, .bool false), (8, .int .i64 (l.length)), (9, .int .i64 (i)), (10, .int .i64 (j)), (15, .int .i64 (i)), (16, .int .i64 (j))]) (Env.has_cons rfl (Env.has_cons rfl (Env.has_cons rfl (Env.has_cons rfl (Env.has_cons rfl (Env.has_cons rfl (Env.has_cons rfl (Env.has_cons rfl (Env.has_cons rfl Env.has_nil))))))))) ?_
    refine W.region_flat 15 Try_follows (by kernel_rfl) (by kernel_rfl) rfl ?_
    refine FL.run (i := 0) [] false (fun v_ _ => v_ = .int .i64 (i)) rfl rfl rfl (by kernel_rfl) (Stable.eq _) ?_ ?_
    · intro wb2 ho_wb2
      exact And.intro rfl (Eff.reads (Yield.move rfl rfl) rfl)
    refine FL.run (i := 1) [] false (fun v_ _ => v_ = .int .i64 (i)) rfl rfl rfl (by kernel_rfl) (Stable.eq _) ?_ ?_
    · intro wb2 ho_wb2
      exact And.intro rfl (Eff.reads (Yield.move rfl rfl) rfl)
    refine FL.run (i := 2) [] false (fun v_ _ => v_ = .int .i64 (l.length)) rfl rfl rfl (by kernel_rfl) (Stable.eq _) ?_ ?_
    · intro wb2 ho_wb2
      exact And.intro rfl (Eff.reads (Yield.move rfl rfl) rfl)
    refine FL.run (i := 3) [1, 2] false (fun v_ _ => v_ = .bool (decide (i < l.length))) rfl rfl rfl (by kernel_rfl) (Stable.eq _) ?_ ?_
    · intro wb2 ho_wb2
      rintro _ rfl
      rintro _ rfl
      exact And.intro rfl (Eff.reads (Yield.ar (v' := .bool (decide (i < l.length))) rfl rfl rfl rfl (bool_dec (by omega))) rfl)
    refine FL.run (i := 4) [3] false (fun v_ _ => v_ = .bool (decide (i < l.length))) rfl rfl rfl (by kernel_rfl) (Stable.eq _) ?_ ?_
    · intro wb2 ho_wb2
      rintro _ rfl
      exact And.intro rfl (Eff.reads (Yield.move rfl rfl) rfl)
    by_cases hlt : i < l.length
    · have hlt_y : i < l.length := by omega
      obtain ⟨ad, rfl⟩ := hr.addr hlt_y
      obtain ⟨y, hy⟩ := getD_some hlt_y
      refine FL.run (i := 5) [4] false (fun v_ _ => v_ = .func (.func 67) #[] #[]) rfl rfl rfl (by kernel_rfl) (Stable.eq _) ?_ ?_
      · intro wb2 ho_wb2
        rintro _ rfl
        rw [decide_eq_true hlt]
        exact And.intro rfl (Eff.reads (Yield.move rfl rfl) rfl)
      refine FL.run (i := 6) [4] false (fun v_ _ => v_ = .slice (some ad) (l.length) (c)) rfl rfl rfl (by kernel_rfl) (Stable.eq _) ?_ ?_
      · intro wb2 ho_wb2
        rintro _ rfl
        rw [decide_eq_true hlt]
        exact And.intro rfl (Eff.reads (Yield.move rfl rfl) rfl)
      refine FL.run (i := 7) [4] false (fun v_ _ => v_ = .int .i64 (i)) rfl rfl rfl (by kernel_rfl) (Stable.eq _) ?_ ?_
      · intro wb2 ho_wb2
        rintro _ rfl
        rw [decide_eq_true hlt]
        exact And.intro rfl (Eff.reads (Yield.move rfl rfl) rfl)
      refine FL.run (i := 8) [6, 7, 4] false (fun v_ _ => v_ = .pointer (some ((ad).add (i * 3)))) rfl rfl rfl (by kernel_rfl) (Stable.eq _) ?_ ?_
      · intro wb2 ho_wb2
        rintro _ rfl
        rintro _ rfl
        rintro _ rfl
        rw [decide_eq_true hlt]
        exact And.intro rfl (Eff.reads (Yield.indexNat i rfl rfl rfl Try.runUnderlying39 Try.sizeOf51 (by omega)) rfl)
      refine FL.run (i := 9) [8, 4] false (fun v_ _ => v_ = .agg #[.int .i64 (y.f), .int .u64 ((y.n.toNat : Int)), .int .u64 ((y.t.toNat : Int))]) rfl rfl rfl (by kernel_rfl) (Stable.eq _) ?_ ?_
      · intro wb2 ho_wb2
        rintro _ rfl
        rintro _ rfl
        rw [decide_eq_true hlt]
        have hO := hO.ext ho_wb2
        exact And.intro rfl (Eff.reads (Yield.loadAgg (cs := [.int .i64 (y.f), .int .u64 ((y.n.toNat : Int)), .int .u64 ((y.t.toNat : Int))]) rfl rfl Try.isAgg51 Try.sizeOf51 (Rd.at (Rd.ext hr hO) hy)) rfl)
      refine FL.run (i := 10) [4] false (fun v_ _ => v_ = .agg #[.int .i64 (x.f), .int .u64 ((x.n.toNat : Int)), .int .u64 ((x.t.toNat : Int))]) rfl rfl rfl (by kernel_rfl) (Stable.eq _) ?_ ?_
      · intro wb2 ho_wb2
        rintro _ rfl
        rw [decide_eq_true hlt]
        have hb_b1 := ho_wb2.get hb_b1
        exact And.intro rfl (Eff.reads (Yield.loadAgg (cs := [.int .i64 (x.f), .int .u64 ((x.n.toNat : Int)), .int .u64 ((x.t.toNat : Int))]) rfl rfl Try.isAgg51 Try.sizeOf51 (blk_cells hb_b1 rfl)) rfl)
      refine FL.run (i := 11) [5, 9, 10, 4] false (fun v_ _ => v_ = .int .i64 (ord y x)) rfl rfl rfl (by kernel_rfl) (Stable.eq _) ?_ ?_
      · intro wb2 ho_wb2
        rintro _ rfl
        rintro _ rfl
        rintro _ rfl
        rintro _ rfl
        rw [decide_eq_true hlt]
        exact And.intro rfl (Eff.calls (Eff.call rfl rfl rfl Try.call67 (by rintro _ rfl; exact order_any _ y x)))
      refine FL.run (i := 12) [11, 4] false (fun v_ _ => v_ = .bool (decide ((ord y x : Int) = 0))) rfl rfl rfl (by kernel_rfl) (Stable.eq _) ?_ ?_
      · intro wb2 ho_wb2
        rintro _ rfl
        rintro _ rfl
        rw [decide_eq_true hlt]
        exact And.intro rfl (Eff.reads (Yield.bin rfl rfl rfl rfl) rfl)
      refine FL.run (i := 13) [4, 12] false (fun v_ _ => v_ = .bool (decide ((ord y x : Int) = 0))) rfl rfl rfl (by kernel_rfl) (Stable.eq _) ?_ ?_
      · intro wb2 ho_wb2
        rintro _ rfl
        rw [decide_eq_true hlt]
        rintro _ rfl
        exact And.intro rfl (Eff.reads (Yield.pick_t rfl rfl rfl) rfl)
      refine FL.run (i := 14) [0] false (fun v_ _ => v_ = .int .i64 (i)) rfl rfl rfl (by kernel_rfl) (Stable.eq _) ?_ ?_
      · intro wb2 ho_wb2
        rintro _ rfl
        exact And.intro rfl (Eff.reads (Yield.assign rfl rfl) rfl)
      refine FL.fin rfl [13, 14] ?_
      intro w5 ho_w5
      rintro _ rfl
      rintro _ rfl
      intro _
      show WL _ _ _ _ _ _ _ _
      replace hb_b1 := ho_w5.get hb_b1
      replace hO := hO.ext ho_w5
      refine WL.yield rfl rfl rfl (Yield.assign rfl rfl) ?_
      refine WL.fin ?_
      refine Nm.code ?_
      refine W.ret_post (fun _ _ h => h) Try.results70 rfl ?_
      have hpos := pos_eq (i := i) hp.2.2.1 (fun k z hk => hp.2.2.2 k z (by omega)) (by omega)
      refine ⟨hO, ?_⟩
      rw [there, hpos]
      first | (rw [hy]; rfl) | (rw [List.getElem?_eq_none (by omega)]; rfl)
    · refine FL.skip (i := 5) [4] rfl rfl rfl (by kernel_rfl) ?_ ?_
      · intro wb2 ho_wb2
        rintro _ rfl
        rw [decide_eq_false hlt]
        exact rfl
      refine FL.skip (i := 6) [4] rfl rfl rfl (by kernel_rfl) ?_ ?_
      · intro wb2 ho_wb2
        rintro _ rfl
        rw [decide_eq_false hlt]
        exact rfl
      refine FL.skip (i := 7) [4] rfl rfl rfl (by kernel_rfl) ?_ ?_
      · intro wb2 ho_wb2
        rintro _ rfl
        rw [decide_eq_false hlt]
        exact rfl
      refine FL.skip (i := 8) [6, 7, 4] rfl rfl rfl (by kernel_rfl) ?_ ?_
      · intro wb2 ho_wb2
        rintro _ rfl
        rintro _ rfl
        rintro _ rfl
        rw [decide_eq_false hlt]
        exact rfl
      refine FL.skip (i := 9) [8, 4] rfl rfl rfl (by kernel_rfl) ?_ ?_
      · intro wb2 ho_wb2
        rintro _ rfl
        rintro _ rfl
        rw [decide_eq_false hlt]
        exact rfl
      refine FL.skip (i := 10) [4] rfl rfl rfl (by kernel_rfl) ?_ ?_
      · intro wb2 ho_wb2
        rintro _ rfl
        rw [decide_eq_false hlt]
        exact rfl
      refine FL.skip (i := 11) [5, 9, 10, 4] rfl rfl rfl (by kernel_rfl) ?_ ?_
      · intro wb2 ho_wb2
        rintro _ rfl
        rintro _ rfl
        rintro _ rfl
        rintro _ rfl
        rw [decide_eq_false hlt]
        exact rfl
      refine FL.skip (i := 12) [11, 4] rfl rfl rfl (by kernel_rfl) ?_ ?_
      · intro wb2 ho_wb2
        rintro _ rfl
        rintro _ rfl
        rw [decide_eq_false hlt]
        exact rfl
      refine FL.run (i := 13) [4, 12] false (fun v_ _ => v_ = .bool false) rfl rfl rfl (by kernel_rfl) (Stable.eq _) ?_ ?_
      · intro wb2 ho_wb2
        rintro _ rfl
        rw [decide_eq_false hlt]
        rintro _ rfl
        exact And.intro rfl (Eff.reads (Yield.pick_f rfl rfl rfl) rfl)
      refine FL.run (i := 14) [0] false (fun v_ _ => v_ = .int .i64 (i)) rfl rfl rfl (by kernel_rfl) (Stable.eq _) ?_ ?_
      · intro wb2 ho_wb2
        rintro _ rfl
        exact And.intro rfl (Eff.reads (Yield.assign rfl rfl) rfl)
      refine FL.fin rfl [13, 14] ?_
      intro w6 ho_w6
      rintro _ rfl
      rintro _ rfl
      intro _
      show WL _ _ _ _ _ _ _ _
      replace hb_b1 := ho_w6.get hb_b1
      replace hO := hO.ext ho_w6
      refine WL.yield rfl rfl rfl (Yield.assign rfl rfl) ?_
      refine WL.fin ?_
      refine Nm.code ?_
      refine W.ret_post (fun _ _ h => h) Try.results70 rfl ?_
      have hpos := pos_eq (i := i) hp.2.2.1 (fun k z hk => hp.2.2.2 k z (by omega)) (by omega)
      refine ⟨hO, ?_⟩
      rw [there, hpos]
      first | (rw [hy]; rfl) | (rw [List.getElem?_eq_none (by omega)]; rfl)

end Go.Proofs.Ytpnoddfjklcahaa
