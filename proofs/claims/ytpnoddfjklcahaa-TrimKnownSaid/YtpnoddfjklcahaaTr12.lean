import Derived.Test.YtpnoddfjklcahaaTr11

set_option linter.all false
namespace Go.Proofs.Ytpnoddfjklcahaa
open Go Go.Lv Go.RowKit Go.Shoal


theorem radd_any (w : World) (A : Option Addr) (c : Nat) (l : List En) (hr : Rd encEn w A l) (hlen : l.length ≤ 100000) (hcap : l.length ≤ c) (x : En) :
    Fc Try.prog 36 #[.slice (A) (l.length) (c), .agg #[.int .i64 (x.f), .int .u64 ((x.n.toNat : Int)), .int .u64 ((x.t.toNat : Int))]] w (fun v w' => Ext w w' ∧ Sl encEn (addR l x) v w') := by
  refine Fc.enter (args := [.slice (A) (l.length) (c), .agg #[.int .i64 (x.f), .int .u64 ((x.n.toNat : Int)), .int .u64 ((x.t.toNat : Int))]]) Try.func36 rfl Try.ntmps36 rfl ?_
  intro K_
  have hO : Only (fun _ => False) w w := Only.refl _ _
  refine W.seq ?_
  refine W.region ?_
  refine WL.eff _ rfl rfl (Eff.box rfl rfl) ?_
  rintro _ w1 ⟨_, b1, rfl, hs_b1, rfl, he_w1⟩
  have hb_b1 : w1.heap[b1]? = some (.cells #[.int .i64 (x.f), .int .u64 ((x.n.toNat : Int)), .int .u64 ((x.t.toNat : Int))] 66 (0, 0)) := by rw [he_w1, hs_b1]; exact new_get _ _
  have ho_w1 : Ext w w1 := by rw [he_w1]; exact Ext.alloc _ _
  clear he_w1
  have hn_b1 : w.heap.size ≤ b1 := by rw [hs_b1]; exact hO.size
  replace hO := hO.ext ho_w1
  refine WL.yield rfl rfl rfl (Yield.assign rfl rfl) ?_
  refine WL.fin ?_
  refine Nm.code ?_
  refine W.seq ?_
  refine W.seq ?_
  refine W.region ?_
  refine WL.yield rfl rfl rfl (Yield.move rfl rfl) ?_
  refine WL.eff _ rfl rfl (Eff.fn rfl rfl Try.call34 (by rintro _ rfl; exact rgood_any _ _ _ _ (hr.ext hO) (by omega))) ?_
  have hlt_b1_w1 : b1 < w1.heap.size := blk_lt hb_b1
  have hz_w1 := hO.size
  rintro _ w2 ⟨ho_w2, rfl⟩
  replace hb_b1 := ho_w2.get hb_b1
  replace hO := hO.ext ho_w2
  refine WL.yield rfl rfl rfl (Yield.not rfl rfl) ?_
  refine WL.yield rfl rfl rfl (Yield.move rfl rfl) ?_
  rcases Bool.eq_false_or_eq_true (!(good l)) with hgl | hgl
  · rw [hgl]
    refine WL.skip_g rfl rfl rfl ?_
    refine WL.skip_g rfl rfl rfl ?_
    refine WL.skip_g rfl rfl rfl ?_
    refine WL.yield rfl rfl rfl (Yield.pick_t rfl rfl rfl) ?_
    refine WL.fin ?_
    refine Nm.code ?_
    refine W.cond_true rfl ?_
    refine W.seq ?_
    refine W.region ?_
    refine WL.yield rfl rfl rfl (Yield.move rfl rfl) ?_
    refine WL.yield rfl rfl rfl (Yield.assign rfl rfl) ?_
    refine WL.fin ?_
    refine Nm.code ?_
    refine W.ret_post (fun _ _ h => h) Try.results36 rfl ?_
    have e : addR l x = l := by unfold addR; rw [if_neg]; simp_all
    rw [e]
    exact ⟨hO, _, _, rfl, hcap, hr.ext hO⟩
  · rw [hgl]
    refine WL.yield_g rfl rfl rfl (Yield.loadAgg (cs := [.int .i64 (x.f), .int .u64 ((x.n.toNat : Int)), .int .u64 ((x.t.toNat : Int))]) rfl rfl Try.isAgg66 Try.sizeOf66 (blk_cells hb_b1 rfl)) ?_
    refine WL.eff _ rfl rfl (Eff.fn rfl rfl Try.call83 (by rintro _ rfl; exact rmay_any _ x)) ?_
    have hlt_b1_w2 : b1 < w2.heap.size := blk_lt hb_b1
    have hz_w2 := hO.size
    rintro _ w3 ⟨ho_w3, rfl⟩
    replace hb_b1 := ho_w3.get hb_b1
    replace hO := hO.ext ho_w3
    refine WL.yield_g rfl rfl rfl (Yield.not rfl rfl) ?_
    refine WL.yield rfl rfl rfl (Yield.pick_f rfl rfl rfl) ?_
    refine WL.fin ?_
    refine Nm.code ?_
    refine W.cond rfl (fun hc0 => ?_) (fun hc0 => ?_)
    · refine W.seq ?_
      refine W.region ?_
      refine WL.yield rfl rfl rfl (Yield.move rfl rfl) ?_
      refine WL.yield rfl rfl rfl (Yield.assign rfl rfl) ?_
      refine WL.fin ?_
      refine Nm.code ?_
      refine W.ret_post (fun _ _ h => h) Try.results36 rfl ?_
      have e : addR l x = l := by unfold addR; rw [if_neg]; simp_all
      rw [e]
      exact ⟨hO, _, _, rfl, hcap, hr.ext hO⟩
    · have hgood : good l = true := by simp_all
      have hmay : may x = true := by simp_all
      have hrise := good_rise hgood
      refine W.skipN ?_
      refine Nm.code ?_
      refine W.seq ?_
      refine W.region ?_
      refine WL.yield rfl rfl rfl (Yield.assign rfl rfl) ?_
      refine WL.fin ?_
      refine Nm.code ?_
      have hz_w3 := hO.size
      have hlt_b1_w3 : b1 < w3.heap.size := blk_lt hb_b1
      have hE_lo1 : Only (fun k => False) w3 w3 := Only.refl _ _
      refine W.seq_cut (σ := Nat) (fun p => [(0, .slice (A) (l.length) (c)), (3, .pointer (some ⟨b1, 0, none⟩)), (4, .slice (none) (0) (0)), (14, .bool (!(may x))), (5, .int .i64 (p))]) (fun p ww => ((p = pos l x ∧ p ≤ l.length) ∧ Only (fun _ => False) w ww ∧ Only (fun k => False) w3 ww ∧ ww.heap[b1]? = some (.cells #[.int .i64 (x.f), .int .u64 ((x.n.toNat : Int)), .int .u64 ((x.t.toNat : Int))] 66 (0, 0)))) ?_ ?_
      · refine W.block ?_
        have hz_w3 := hO.size
        have hlt_b1_w3 : b1 < w3.heap.size := blk_lt hb_b1
        refine W.loop (σ := Nat) (fun i => [(0, .slice (A) (l.length) (c)), (3, .pointer (some ⟨b1, 0, none⟩)), (4, .slice (none) (0) (0)), (14, .bool (!(may x))), (5, .int .i64 (i))]) (fun i ww => ((i ≤ l.length ∧ ∀ k y, k < i → l[k]? = some y → ord y x < 0) ∧ Ext w3 ww)) (fun i => (l.length - i)) 0 (Env.has_cons rfl (Env.has_cons rfl (Env.has_cons rfl (Env.has_cons rfl (Env.has_cons rfl Env.has_nil))))) ⟨⟨Nat.zero_le _, fun k y hk => by omega⟩, Ext.refl _⟩ ?_
        rintro i w5 ⟨hp, hE_lo2⟩
        have hb_b1_lo2 := hb_b1
        replace hb_b1 := Ext.get hE_lo2 hb_b1_lo2
        have hO_lo2 := hO
        replace hO := hO_lo2.ext hE_lo2
        have hE_lo1_lo2 := hE_lo1
        replace hE_lo1 := hE_lo1_lo2.ext hE_lo2
        refine W.seq ?_
        refine W.seq ?_
        have hlt_b1_w5 : b1 < w5.heap.size := blk_lt hb_b1
        have hz_w5 := hO.size
        refine W.region_flat 10 Try_follows (by kernel_rfl) (by kernel_rfl) rfl ?_
        refine FL.run (i := 0) [] false (fun v_ _ => v_ = .int .i64 (i)) rfl rfl rfl (by kernel_rfl) (Stable.eq _) ?_ ?_
        · intro wb1 ho_wb1
          exact And.intro rfl (Eff.reads (Yield.move rfl rfl) rfl)
        refine FL.run (i := 1) [] false (fun v_ _ => v_ = .slice (A) (l.length) (c)) rfl rfl rfl (by kernel_rfl) (Stable.eq _) ?_ ?_
        · intro wb1 ho_wb1
          exact And.intro rfl (Eff.reads (Yield.move rfl rfl) rfl)
        refine FL.run (i := 2) [1] false (fun v_ _ => v_ = .int .i64 (l.length)) rfl rfl rfl (by kernel_rfl) (Stable.eq _) ?_ ?_
        · intro wb1 ho_wb1
          rintro _ rfl
          exact And.intro rfl (Eff.reads (Yield.lenSlice rfl rfl Try.runUnderlying45) rfl)
        refine FL.run (i := 3) [0, 2] false (fun v_ _ => v_ = .bool (decide (i < l.length))) rfl rfl rfl (by kernel_rfl) (Stable.eq _) ?_ ?_
        · intro wb1 ho_wb1
          rintro _ rfl
          rintro _ rfl
          exact And.intro rfl (Eff.reads (Yield.ar (v' := .bool (decide (i < l.length))) rfl rfl rfl rfl (bool_dec (by omega))) rfl)
        refine FL.run (i := 4) [3] false (fun v_ _ => v_ = .bool (decide (i < l.length))) rfl rfl rfl (by kernel_rfl) (Stable.eq _) ?_ ?_
        · intro wb1 ho_wb1
          rintro _ rfl
          exact And.intro rfl (Eff.reads (Yield.move rfl rfl) rfl)
        by_cases hi : i < l.length
        · have hlt_y : i < l.length := by omega
          obtain ⟨ad, rfl⟩ := hr.addr hlt_y
          obtain ⟨y, hy⟩ := getD_some hlt_y
          refine FL.run (i := 5) [4] false (fun v_ _ => v_ = .slice (some ad) (l.length) (c)) rfl rfl rfl (by kernel_rfl) (Stable.eq _) ?_ ?_
          · intro wb1 ho_wb1
            rintro _ rfl
            rw [decide_eq_true hi]
            exact And.intro rfl (Eff.reads (Yield.move rfl rfl) rfl)
          refine FL.run (i := 6) [4] false (fun v_ _ => v_ = .int .i64 (i)) rfl rfl rfl (by kernel_rfl) (Stable.eq _) ?_ ?_
          · intro wb1 ho_wb1
            rintro _ rfl
            rw [decide_eq_true hi]
            exact And.intro rfl (Eff.reads (Yield.move rfl rfl) rfl)
          refine FL.run (i := 7) [5, 6, 4] false (fun v_ _ => v_ = .pointer (some ((ad).add (i * 3)))) rfl rfl rfl (by kernel_rfl) (Stable.eq _) ?_ ?_
          · intro wb1 ho_wb1
            rintro _ rfl
            rintro _ rfl
            rintro _ rfl
            rw [decide_eq_true hi]
            exact And.intro rfl (Eff.reads (Yield.indexNat i rfl rfl rfl Try.runUnderlying45 Try.sizeOf66 (by omega)) rfl)
          refine FL.run (i := 8) [7, 4] false (fun v_ _ => v_ = .agg #[.int .i64 (y.f), .int .u64 ((y.n.toNat : Int)), .int .u64 ((y.t.toNat : Int))]) rfl rfl rfl (by kernel_rfl) (Stable.eq _) ?_ ?_
          · intro wb1 ho_wb1
            rintro _ rfl
            rintro _ rfl
            rw [decide_eq_true hi]
            have hO := hO.ext ho_wb1
            exact And.intro rfl (Eff.reads (Yield.loadAgg (cs := [.int .i64 (y.f), .int .u64 ((y.n.toNat : Int)), .int .u64 ((y.t.toNat : Int))]) rfl rfl Try.isAgg66 Try.sizeOf66 (Rd.at (Rd.ext hr hO) hy)) rfl)
          refine FL.run (i := 9) [4] false (fun v_ _ => v_ = .agg #[.int .i64 (x.f), .int .u64 ((x.n.toNat : Int)), .int .u64 ((x.t.toNat : Int))]) rfl rfl rfl (by kernel_rfl) (Stable.eq _) ?_ ?_
          · intro wb1 ho_wb1
            rintro _ rfl
            rw [decide_eq_true hi]
            have hb_b1 := ho_wb1.get hb_b1
            exact And.intro rfl (Eff.reads (Yield.loadAgg (cs := [.int .i64 (x.f), .int .u64 ((x.n.toNat : Int)), .int .u64 ((x.t.toNat : Int))]) rfl rfl Try.isAgg66 Try.sizeOf66 (blk_cells hb_b1 rfl)) rfl)
          refine FL.fin rfl [4, 8, 9] ?_
          intro w6 ho_w6
          rintro _ rfl
          rw [decide_eq_true hi]
          rintro _ rfl
          rintro _ rfl
          intro _
          show WL _ _ _ _ _ _ _ _
          replace hb_b1 := ho_w6.get hb_b1
          replace hO := hO.ext ho_w6
          replace hE_lo1 := hE_lo1.ext ho_w6
          replace hE_lo2 := hE_lo2.ext ho_w6
          refine WL.eff _ rfl rfl (Eff.fn rfl rfl Try.call84 (by rintro _ rfl; exact rahead_any _ y x)) ?_
          have hlt_b1_w6 : b1 < w6.heap.size := blk_lt hb_b1
          have hz_w6 := hO.size
          rintro _ w7 ⟨ho_w7, rfl⟩
          replace hb_b1 := ho_w7.get hb_b1
          replace hO := hO.ext ho_w7
          replace hE_lo1 := hE_lo1.ext ho_w7
          replace hE_lo2 := hE_lo2.ext ho_w7
          refine WL.yield rfl rfl rfl (Yield.pick_t rfl rfl rfl) ?_
          refine WL.fin ?_
          refine Nm.code ?_
          refine W.cond_dec rfl (fun hc1 => ?_) (fun hc1 => ?_)
          · refine W.skipN ?_
            refine Nm.code ?_
            refine W.block ?_
            refine W.region ?_
            refine WL.yield rfl rfl rfl (Yield.move rfl rfl) ?_
            refine WL.yield rfl rfl rfl (Yield.ar (v' := .int .i64 (((i + 1 : Nat) : Int))) rfl rfl rfl rfl (int_eq (by rw [wrap_i64 (by omega) (by omega)]; omega))) ?_
            refine WL.yield rfl rfl rfl (Yield.assign rfl rfl) ?_
            refine WL.fin ?_
            refine Nm.block ?_
            refine Nm.again (i + 1) (Env.has_cons rfl (Env.has_cons rfl (Env.has_cons rfl (Env.has_cons rfl (Env.has_cons rfl Env.has_nil))))) ⟨⟨by omega, upto_step hp.2 hy hc1⟩, hE_lo2⟩ (by omega)
          · refine W.exitX ?_
            refine Ex.thenX ?_
            refine Ex.thenX ?_
            refine Ex.hit ?_
            refine Nm.meet i (Env.has_cons rfl (Env.has_cons rfl (Env.has_cons rfl (Env.has_cons rfl (Env.has_cons rfl Env.has_nil))))) ⟨⟨(by first | exact (pos_eq (fun k y hk hy => hp.2 k y hk hy) (fun k y hk hy => absurd (List.getElem?_eq_some_iff.1 hy).1 (by omega)) (by omega)).symm | exact (pos_eq (fun k y hk hy => hp.2 k y hk hy) (from_high hrise hy hc1) (by omega)).symm), (by omega)⟩, hO, hE_lo1, hb_b1⟩
        · refine FL.skip (i := 5) [4] rfl rfl rfl (by kernel_rfl) ?_ ?_
          · intro wb1 ho_wb1
            rintro _ rfl
            rw [decide_eq_false hi]
            exact rfl
          refine FL.skip (i := 6) [4] rfl rfl rfl (by kernel_rfl) ?_ ?_
          · intro wb1 ho_wb1
            rintro _ rfl
            rw [decide_eq_false hi]
            exact rfl
          refine FL.skip (i := 7) [5, 6, 4] rfl rfl rfl (by kernel_rfl) ?_ ?_
          · intro wb1 ho_wb1
            rintro _ rfl
            rintro _ rfl
            rintro _ rfl
            rw [decide_eq_false hi]
            exact rfl
          refine FL.skip (i := 8) [7, 4] rfl rfl rfl (by kernel_rfl) ?_ ?_
          · intro wb1 ho_wb1
            rintro _ rfl
            rintro _ rfl
            rw [decide_eq_false hi]
            exact rfl
          refine FL.skip (i := 9) [4] rfl rfl rfl (by kernel_rfl) ?_ ?_
          · intro wb1 ho_wb1
            rintro _ rfl
            rw [decide_eq_false hi]
            exact rfl
          refine FL.fin rfl [4, 8, 9] ?_
          intro w8 ho_w8
          rintro _ rfl
          rw [decide_eq_false hi]
          rintro _ rfl
          rintro _ rfl
          intro _
          show WL _ _ _ _ _ _ _ _
          replace hb_b1 := ho_w8.get hb_b1
          replace hO := hO.ext ho_w8
          replace hE_lo1 := hE_lo1.ext ho_w8
          replace hE_lo2 := hE_lo2.ext ho_w8
          refine WL.skip_g rfl rfl rfl ?_
          refine WL.yield rfl rfl rfl (Yield.pick_f rfl rfl rfl) ?_
          refine WL.fin ?_
          refine Nm.code ?_
          refine W.cond_false rfl ?_
          refine W.exitX ?_
          refine Ex.thenX ?_
          refine Ex.thenX ?_
          refine Ex.hit ?_
          refine Nm.meet i (Env.has_cons rfl (Env.has_cons rfl (Env.has_cons rfl (Env.has_cons rfl (Env.has_cons rfl Env.has_nil))))) ⟨⟨(by first | exact (pos_eq (fun k y hk hy => hp.2 k y hk hy) (fun k y hk hy => absurd (List.getElem?_eq_some_iff.1 hy).1 (by omega)) (by omega)).symm | exact (pos_eq (fun k y hk hy => hp.2 k y hk hy) (from_high hrise hy hc1) (by omega)).symm), (by omega)⟩, hO, hE_lo1, hb_b1⟩
      clear hO hE_lo1 hb_b1
      rintro p w4 ⟨hm0, hO, hE_lo1, hb_b1⟩
      obtain ⟨hpe, hple⟩ := hm0
      obtain ⟨A_d, hA_d, hc_d, hR_d⟩ := drop_rd (q := 3) hcap hr p hple rfl
      obtain ⟨le, hle⟩ : ∃ le, le = restE x (l.drop p) := ⟨_, rfl⟩
      have hlel : le.length ≤ 100000 := by rw [hle]; exact Nat.le_trans (restE_len _ _) (by rw [List.length_drop]; omega)
      refine W.seq ?_
      refine W.region ?_
      refine WL.yield rfl rfl rfl (Yield.move rfl rfl) ?_
      refine WL.yield rfl rfl rfl (Yield.move rfl rfl) ?_
      refine WL.yield rfl rfl rfl ((Yield.slice rfl rfl rfl rfl Try.runUnderlying45 Try.sizeOf66 rfl rfl (by omega) (by omega) (by omega)).cast (v' := .slice (A_d) ((l.drop p).length) (c - p)) (hA_d)) ?_
      refine WL.yield rfl rfl rfl (Yield.assign rfl rfl) ?_
      refine WL.fin ?_
      refine Nm.code ?_
      have hz_w4 := hO.size
      have hlt_b1_w4 : b1 < w4.heap.size := blk_lt hb_b1
      have hE_lo3 : Only (fun k => False) w4 w4 := Only.refl _ _
      refine W.seq_cut (σ := Option Addr × Nat) (fun ⟨A_e, c_e⟩ => [(0, .slice (A) (l.length) (c)), (3, .pointer (some ⟨b1, 0, none⟩)), (4, .slice (none) (0) (0)), (14, .bool (!(may x))), (5, .int .i64 (p)), (6, .slice (A_e) (le.length) (c_e))]) (fun ⟨A_e, c_e⟩ ww => ((le.length ≤ c_e ∧ Rd encEn w A_e le) ∧ Only (fun _ => False) w ww ∧ Only (fun k => False) w4 ww ∧ ww.heap[b1]? = some (.cells #[.int .i64 (x.f), .int .u64 ((x.n.toNat : Int)), .int .u64 ((x.t.toNat : Int))] 66 (0, 0)))) ?_ ?_
      · refine W.seq ?_
        have hlt_b1_w4 : b1 < w4.heap.size := blk_lt hb_b1
        have hz_w4 := hO.size
        refine W.region_flat 19 Try_follows (by kernel_rfl) (by kernel_rfl) rfl ?_
        refine FL.run (i := 0) [] false (fun v_ _ => v_ = .slice (A_d) ((l.drop p).length) (c - p)) rfl rfl rfl (by kernel_rfl) (Stable.eq _) ?_ ?_
        · intro wb2 ho_wb2
          exact And.intro rfl (Eff.reads (Yield.move rfl rfl) rfl)
        refine FL.run (i := 1) [0] false (fun v_ _ => v_ = .int .i64 ((l.drop p).length)) rfl rfl rfl (by kernel_rfl) (Stable.eq _) ?_ ?_
        · intro wb2 ho_wb2
          rintro _ rfl
          exact And.intro rfl (Eff.reads (Yield.lenSlice rfl rfl Try.runUnderlying45) rfl)
        refine FL.run (i := 2) [1] false (fun v_ _ => v_ = .bool (decide ((l.drop p).length > 0))) rfl rfl rfl (by kernel_rfl) (Stable.eq _) ?_ ?_
        · intro wb2 ho_wb2
          rintro _ rfl
          exact And.intro rfl (Eff.reads (Yield.ar (v' := .bool (decide ((l.drop p).length > 0))) rfl rfl rfl rfl (bool_dec (by omega))) rfl)
        refine FL.run (i := 3) [2] false (fun v_ _ => v_ = .bool (decide ((l.drop p).length > 0))) rfl rfl rfl (by kernel_rfl) (Stable.eq _) ?_ ?_
        · intro wb2 ho_wb2
          rintro _ rfl
          exact And.intro rfl (Eff.reads (Yield.move rfl rfl) rfl)
        by_cases h70 : (l.drop p).length > 0
        · have hdl : 0 < (l.drop p).length := by omega
          have hlt_y : 0 < (l.drop p).length := by omega
          obtain ⟨add, rfl⟩ := hR_d.addr hlt_y
          obtain ⟨y, hy⟩ := getD_some hlt_y
          refine FL.run (i := 4) [3] false (fun v_ _ => v_ = .slice (some add) ((l.drop p).length) (c - p)) rfl rfl rfl (by kernel_rfl) (Stable.eq _) ?_ ?_
          · intro wb2 ho_wb2
            rintro _ rfl
            rw [decide_eq_true h70]
            exact And.intro rfl (Eff.reads (Yield.move rfl rfl) rfl)
          refine FL.run (i := 5) [4, 3] false (fun v_ _ => v_ = .pointer (some ((add).add (0 * 3)))) rfl rfl rfl (by kernel_rfl) (Stable.eq _) ?_ ?_
          · intro wb2 ho_wb2
            rintro _ rfl
            rintro _ rfl
            rw [decide_eq_true h70]
            exact And.intro rfl (Eff.reads (Yield.indexNat 0 rfl rfl rfl Try.runUnderlying45 Try.sizeOf66 (by omega)) rfl)
          refine FL.run (i := 6) [5, 3] false (fun v_ _ => v_ = .pointer (some (((add).add (0 * 3)).add 0))) rfl rfl rfl (by kernel_rfl) (Stable.eq _) ?_ ?_
          · intro wb2 ho_wb2
            rintro _ rfl
            rintro _ rfl
            rw [decide_eq_true h70]
            exact And.intro rfl (Eff.reads (Yield.fieldAddr rfl rfl Try.runUnderlying66 rfl Try.sizeOf3) rfl)
          refine FL.run (i := 7) [6, 3] false (fun v_ _ => v_ = .int .i64 (y.f)) rfl rfl rfl (by kernel_rfl) (Stable.eq _) ?_ ?_
          · intro wb2 ho_wb2
            rintro _ rfl
            rintro _ rfl
            rw [decide_eq_true h70]
            have hO := hO.ext ho_wb2
            exact And.intro rfl (Eff.reads (Yield.load (v := .int .i64 (y.f)) rfl rfl Try.isAgg3 (Rd.at0 (Rd.ext hR_d hO) hy rfl)) rfl)
          refine FL.run (i := 8) [3] false (fun v_ _ => v_ = .pointer (some ⟨b1, 0, none⟩)) rfl rfl rfl (by kernel_rfl) (Stable.eq _) ?_ ?_
          · intro wb2 ho_wb2
            rintro _ rfl
            rw [decide_eq_true h70]
            exact And.intro rfl (Eff.reads (Yield.fieldAt (k := 0) rfl rfl Try.runUnderlying66 rfl Try.sizeOf3 rfl) rfl)
          refine FL.run (i := 9) [8, 3] false (fun v_ _ => v_ = .int .i64 (x.f)) rfl rfl rfl (by kernel_rfl) (Stable.eq _) ?_ ?_
          · intro wb2 ho_wb2
            rintro _ rfl
            rintro _ rfl
            rw [decide_eq_true h70]
            have hb_b1 := ho_wb2.get hb_b1
            exact And.intro rfl (Eff.reads (Yield.load (v := .int .i64 (x.f)) rfl rfl Try.isAgg3 (cell_get hb_b1 rfl)) rfl)
          refine FL.run (i := 10) [7, 9, 3] false (fun v_ _ => v_ = .bool (decide (y.f = x.f))) rfl rfl rfl (by kernel_rfl) (Stable.eq _) ?_ ?_
          · intro wb2 ho_wb2
            rintro _ rfl
            rintro _ rfl
            rintro _ rfl
            rw [decide_eq_true h70]
            exact And.intro rfl (Eff.reads (Yield.ar (v' := .bool (decide (y.f = x.f))) rfl rfl rfl rfl (bool_dec (Iff.rfl))) rfl)
          refine FL.run (i := 11) [3, 10] false (fun v_ _ => v_ = .bool (decide (y.f = x.f))) rfl rfl rfl (by kernel_rfl) (Stable.eq _) ?_ ?_
          · intro wb2 ho_wb2
            rintro _ rfl
            rw [decide_eq_true h70]
            rintro _ rfl
            exact And.intro rfl (Eff.reads (Yield.pick_t rfl rfl rfl) rfl)
          refine FL.run (i := 12) [11] false (fun v_ _ => v_ = .bool (decide (y.f = x.f))) rfl rfl rfl (by kernel_rfl) (Stable.eq _) ?_ ?_
          · intro wb2 ho_wb2
            rintro _ rfl
            exact And.intro rfl (Eff.reads (Yield.move rfl rfl) rfl)
          by_cases h71 : y.f = x.f
          · refine FL.run (i := 13) [12] false (fun v_ _ => v_ = .slice (some add) ((l.drop p).length) (c - p)) rfl rfl rfl (by kernel_rfl) (Stable.eq _) ?_ ?_
            · intro wb2 ho_wb2
              rintro _ rfl
              rw [decide_eq_true h71]
              exact And.intro rfl (Eff.reads (Yield.move rfl rfl) rfl)
            refine FL.run (i := 14) [13, 12] false (fun v_ _ => v_ = .pointer (some ((add).add (0 * 3)))) rfl rfl rfl (by kernel_rfl) (Stable.eq _) ?_ ?_
            · intro wb2 ho_wb2
              rintro _ rfl
              rintro _ rfl
              rw [decide_eq_true h71]
              exact And.intro rfl (Eff.reads (Yield.indexNat 0 rfl rfl rfl Try.runUnderlying45 Try.sizeOf66 (by omega)) rfl)
            refine FL.run (i := 15) [14, 12] false (fun v_ _ => v_ = .pointer (some (((add).add (0 * 3)).add 1))) rfl rfl rfl (by kernel_rfl) (Stable.eq _) ?_ ?_
            · intro wb2 ho_wb2
              rintro _ rfl
              rintro _ rfl
              rw [decide_eq_true h71]
              exact And.intro rfl (Eff.reads (Yield.fieldAddr rfl rfl Try.runUnderlying66 rfl Try.sizeOf32) rfl)
            refine FL.run (i := 16) [15, 12] false (fun v_ _ => v_ = .int .u64 ((y.n.toNat : Int))) rfl rfl rfl (by kernel_rfl) (Stable.eq _) ?_ ?_
            · intro wb2 ho_wb2
              rintro _ rfl
              rintro _ rfl
              rw [decide_eq_true h71]
              have hO := hO.ext ho_wb2
              exact And.intro rfl (Eff.reads (Yield.load (v := .int .u64 ((y.n.toNat : Int))) rfl rfl Try.isAgg32 (Rd.at (Rd.ext hR_d hO) hy 1 _ rfl)) rfl)
            refine FL.run (i := 17) [12] false (fun v_ _ => v_ = .pointer (some ⟨b1, 1, none⟩)) rfl rfl rfl (by kernel_rfl) (Stable.eq _) ?_ ?_
            · intro wb2 ho_wb2
              rintro _ rfl
              rw [decide_eq_true h71]
              exact And.intro rfl (Eff.reads (Yield.fieldAt (k := 1) rfl rfl Try.runUnderlying66 rfl Try.sizeOf32 rfl) rfl)
            refine FL.run (i := 18) [17, 12] false (fun v_ _ => v_ = .int .u64 ((x.n.toNat : Int))) rfl rfl rfl (by kernel_rfl) (Stable.eq _) ?_ ?_
            · intro wb2 ho_wb2
              rintro _ rfl
              rintro _ rfl
              rw [decide_eq_true h71]
              have hb_b1 := ho_wb2.get hb_b1
              exact And.intro rfl (Eff.reads (Yield.load (v := .int .u64 ((x.n.toNat : Int))) rfl rfl Try.isAgg32 (cell_get hb_b1 rfl)) rfl)
            refine FL.fin rfl [12, 16, 18] ?_
            intro w10 ho_w10
            rintro _ rfl
            rw [decide_eq_true h71]
            rintro _ rfl
            rintro _ rfl
            intro _
            show WL _ _ _ _ _ _ _ _
            replace hb_b1 := ho_w10.get hb_b1
            replace hO := hO.ext ho_w10
            replace hE_lo3 := hE_lo3.ext ho_w10
            refine WL.yield_g rfl rfl rfl (Yield.ar (v' := .bool (decide (y.n.toNat = x.n.toNat))) rfl rfl rfl rfl (bool_dec (by omega))) ?_
            refine WL.yield rfl rfl rfl (Yield.pick_t rfl rfl rfl) ?_
            refine WL.fin ?_
            refine Nm.code ?_
            refine W.cond_dec rfl (fun hc2 => ?_) (fun hc2 => ?_)
            · have hdl2 : 1 ≤ (l.drop p).length := by omega
              obtain ⟨A_t, hA_t, hc_t, hR_t⟩ := drop_rd (q := 3) hc_d hR_d 1 hdl2 rfl
              refine W.region ?_
              refine WL.yield rfl rfl rfl (Yield.move rfl rfl) ?_
              refine WL.yield rfl rfl rfl ((Yield.slice rfl rfl rfl rfl Try.runUnderlying45 Try.sizeOf66 rfl rfl (by omega) (by omega) (by omega)).cast (v' := .slice (A_t) (((l.drop p).drop 1).length) (c - p - 1)) (hA_t)) ?_
              refine WL.yield rfl rfl rfl (Yield.assign rfl rfl) ?_
              refine WL.fin ?_
              have he : le = (l.drop p).drop 1 := hle.trans (restE_yes hy h71 hc2)
              subst he
              refine Nm.meet ⟨A_t, c - p - 1⟩ (Env.has_cons rfl (Env.has_cons rfl (Env.has_cons rfl (Env.has_cons rfl (Env.has_cons rfl (Env.has_cons rfl Env.has_nil)))))) ⟨⟨hc_t, hR_t⟩, hO, hE_lo3, hb_b1⟩
            · refine W.skipN ?_
              have he : le = l.drop p := hle.trans (by first | exact restE_nil h70 | exact restE_no hy (by omega))
              subst he
              refine Nm.meet ⟨some add, c - p⟩ (Env.has_cons rfl (Env.has_cons rfl (Env.has_cons rfl (Env.has_cons rfl (Env.has_cons rfl (Env.has_cons rfl Env.has_nil)))))) ⟨⟨hc_d, hR_d⟩, hO, hE_lo3, hb_b1⟩
          · refine FL.skip (i := 13) [12] rfl rfl rfl (by kernel_rfl) ?_ ?_
            · intro wb2 ho_wb2
              rintro _ rfl
              rw [decide_eq_false h71]
              exact rfl
            refine FL.skip (i := 14) [13, 12] rfl rfl rfl (by kernel_rfl) ?_ ?_
            · intro wb2 ho_wb2
              rintro _ rfl
              rintro _ rfl
              rw [decide_eq_false h71]
              exact rfl
            refine FL.skip (i := 15) [14, 12] rfl rfl rfl (by kernel_rfl) ?_ ?_
            · intro wb2 ho_wb2
              rintro _ rfl
              rintro _ rfl
              rw [decide_eq_false h71]
              exact rfl
            refine FL.skip (i := 16) [15, 12] rfl rfl rfl (by kernel_rfl) ?_ ?_
            · intro wb2 ho_wb2
              rintro _ rfl
              rintro _ rfl
              rw [decide_eq_false h71]
              exact rfl
            refine FL.skip (i := 17) [12] rfl rfl rfl (by kernel_rfl) ?_ ?_
            · intro wb2 ho_wb2
              rintro _ rfl
              rw [decide_eq_false h71]
              exact rfl
            refine FL.skip (i := 18) [17, 12] rfl rfl rfl (by kernel_rfl) ?_ ?_
            · intro wb2 ho_wb2
              rintro _ rfl
              rintro _ rfl
              rw [decide_eq_false h71]
              exact rfl
            refine FL.fin rfl [12, 16, 18] ?_
            intro w11 ho_w11
            rintro _ rfl
            rw [decide_eq_false h71]
            rintro _ rfl
            rintro _ rfl
            intro _
            show WL _ _ _ _ _ _ _ _
            replace hb_b1 := ho_w11.get hb_b1
            replace hO := hO.ext ho_w11
            replace hE_lo3 := hE_lo3.ext ho_w11
            refine WL.skip_g rfl rfl rfl ?_
            refine WL.yield rfl rfl rfl (Yield.pick_f rfl rfl rfl) ?_
            refine WL.fin ?_
            refine Nm.code ?_
            refine W.cond_false rfl ?_
            refine W.skipN ?_
            have he : le = l.drop p := hle.trans (by first | exact restE_nil h70 | exact restE_no hy (by omega))
            subst he
            refine Nm.meet ⟨some add, c - p⟩ (Env.has_cons rfl (Env.has_cons rfl (Env.has_cons rfl (Env.has_cons rfl (Env.has_cons rfl (Env.has_cons rfl Env.has_nil)))))) ⟨⟨hc_d, hR_d⟩, hO, hE_lo3, hb_b1⟩
        · refine FL.skip (i := 4) [3] rfl rfl rfl (by kernel_rfl) ?_ ?_
          · intro wb2 ho_wb2
            rintro _ rfl
            rw [decide_eq_false h70]
            exact rfl
          refine FL.skip (i := 5) [4, 3] rfl rfl rfl (by kernel_rfl) ?_ ?_
          · intro wb2 ho_wb2
            rintro _ rfl
            rintro _ rfl
            rw [decide_eq_false h70]
            exact rfl
          refine FL.skip (i := 6) [5, 3] rfl rfl rfl (by kernel_rfl) ?_ ?_
          · intro wb2 ho_wb2
            rintro _ rfl
            rintro _ rfl
            rw [decide_eq_false h70]
            exact rfl
          refine FL.skip (i := 7) [6, 3] rfl rfl rfl (by kernel_rfl) ?_ ?_
          · intro wb2 ho_wb2
            rintro _ rfl
            rintro _ rfl
            rw [decide_eq_false h70]
            exact rfl
          refine FL.skip (i := 8) [3] rfl rfl rfl (by kernel_rfl) ?_ ?_
          · intro wb2 ho_wb2
            rintro _ rfl
            rw [decide_eq_false h70]
            exact rfl
          refine FL.skip (i := 9) [8, 3] rfl rfl rfl (by kernel_rfl) ?_ ?_
          · intro wb2 ho_wb2
            rintro _ rfl
            rintro _ rfl
            rw [decide_eq_false h70]
            exact rfl
          refine FL.skip (i := 10) [7, 9, 3] rfl rfl rfl (by kernel_rfl) ?_ ?_
          · intro wb2 ho_wb2
            rintro _ rfl
            rintro _ rfl
            rintro _ rfl
            rw [decide_eq_false h70]
            exact rfl
          refine FL.run (i := 11) [3, 10] false (fun v_ _ => v_ = .bool false) rfl rfl rfl (by kernel_rfl) (Stable.eq _) ?_ ?_
          · intro wb2 ho_wb2
            rintro _ rfl
            rw [decide_eq_false h70]
            rintro _ rfl
            exact And.intro rfl (Eff.reads (Yield.pick_f rfl rfl rfl) rfl)
          refine FL.run (i := 12) [11] false (fun v_ _ => v_ = .bool false) rfl rfl rfl (by kernel_rfl) (Stable.eq _) ?_ ?_
          · intro wb2 ho_wb2
            rintro _ rfl
            exact And.intro rfl (Eff.reads (Yield.move rfl rfl) rfl)
          refine FL.skip (i := 13) [12] rfl rfl rfl (by kernel_rfl) ?_ ?_
          · intro wb2 ho_wb2
            rintro _ rfl
            exact rfl
          refine FL.skip (i := 14) [13, 12] rfl rfl rfl (by kernel_rfl) ?_ ?_
          · intro wb2 ho_wb2
            rintro _ rfl
            rintro _ rfl
            exact rfl
          refine FL.skip (i := 15) [14, 12] rfl rfl rfl (by kernel_rfl) ?_ ?_
          · intro wb2 ho_wb2
            rintro _ rfl
            rintro _ rfl
            exact rfl
          refine FL.skip (i := 16) [15, 12] rfl rfl rfl (by kernel_rfl) ?_ ?_
          · intro wb2 ho_wb2
            rintro _ rfl
            rintro _ rfl
            exact rfl
          refine FL.skip (i := 17) [12] rfl rfl rfl (by kernel_rfl) ?_ ?_
          · intro wb2 ho_wb2
            rintro _ rfl
            exact rfl
          refine FL.skip (i := 18) [17, 12] rfl rfl rfl (by kernel_rfl) ?_ ?_
          · intro wb2 ho_wb2
            rintro _ rfl
            rintro _ rfl
            exact rfl
          refine FL.fin rfl [12, 16, 18] ?_
          intro w12 ho_w12
          rintro _ rfl
          rintro _ rfl
          rintro _ rfl
          intro _
          show WL _ _ _ _ _ _ _ _
          replace hb_b1 := ho_w12.get hb_b1
          replace hO := hO.ext ho_w12
          replace hE_lo3 := hE_lo3.ext ho_w12
          refine WL.skip_g rfl rfl rfl ?_
          refine WL.yield rfl rfl rfl (Yield.pick_f rfl rfl rfl) ?_
          refine WL.fin ?_
          refine Nm.code ?_
          refine W.cond_false rfl ?_
          refine W.skipN ?_
          have he : le = l.drop p := hle.trans (by first | exact restE_nil h70 | exact restE_no hy (by omega))
          subst he
          refine Nm.meet ⟨A_d, c - p⟩ (Env.has_cons rfl (Env.has_cons rfl (Env.has_cons rfl (Env.has_cons rfl (Env.has_cons rfl (Env.has_cons rfl Env.has_nil)))))) ⟨⟨hc_d, hR_d⟩, hO, hE_lo3, hb_b1⟩
      clear hO hE_lo3 hb_b1
      rintro ⟨A_e, c_e⟩ w9 ⟨hm2, hO, hE_lo3, hb_b1⟩
      obtain ⟨hc_e, hR_e⟩ := hm2
      refine W.seq ?_
      refine W.region_draw 9 (w9 = ·) rfl Try_follows (by kernel_rfl) (by kernel_rfl) ?_
      refine HT.read (i := 1) (by kernel_rfl) rfl rfl rfl rfl (YC.read (by rintro _ rfl; exact (Yield.move rfl rfl))) ?_
      refine HT.read (i := 2) (by kernel_rfl) rfl rfl rfl rfl (YC.read (by rintro _ rfl; exact (Yield.move rfl rfl))) ?_
      refine HT.read (i := 3) (by kernel_rfl) rfl rfl rfl rfl (YC.read (by rintro _ rfl; exact ((Yield.slice rfl rfl rfl rfl Try.runUnderlying45 Try.sizeOf66 rfl rfl (by omega) (by omega) (by omega)).cast (v' := .slice (A) ((l.take p).length) (c)) ((slice_val0 rfl).trans (by rw [List.length_take, Nat.min_eq_left hple]))))) ?_
      refine HT.read (i := 5) (by kernel_rfl) rfl rfl rfl rfl (YC.read (by rintro _ rfl; exact (Yield.loadAgg (cs := [.int .i64 (x.f), .int .u64 ((x.n.toNat : Int)), .int .u64 ((x.t.toNat : Int))]) rfl rfl Try.isAgg66 Try.sizeOf66 (blk_cells hb_b1 rfl)))) ?_
      refine HT.read (i := 8) (by kernel_rfl) rfl rfl rfl rfl (YC.read (by rintro _ rfl; exact (Yield.move rfl rfl))) ?_
      refine HT.effB2 (i := 0) (j := 6) (by kernel_rfl) ?_ ?_
      · refine HT.br (i := 0) _ rfl rfl rfl (Eff.buildEmpty rfl Try.runUnderlying45 Try.sizeOf66) ?_
        rintro _ w13 ⟨_, b2, rfl, hs_b2, rfl, he_w13⟩
        have hb_b2 : w13.heap[b2]? = some (.cells #[] 66 (0, 0)) := by rw [he_w13, hs_b2]; exact new_get _ _
        have ho_w13 : Ext w9 w13 := by rw [he_w13]; exact Ext.alloc _ _
        clear he_w13
        have hn_b2 : w.heap.size ≤ b2 := by rw [hs_b2]; exact hO.size
        have hq_b1_b2 : b1 < b2 := by rw [hs_b2]; exact blk_lt hb_b1
        replace hb_b1 := ho_w13.get hb_b1
        replace hO := hO.ext ho_w13
        refine ⟨(AllP.rd rfl (Yield.move rfl rfl) (AllP.rd rfl (Yield.loadAgg (cs := [.int .i64 (x.f), .int .u64 ((x.n.toNat : Int)), .int .u64 ((x.t.toNat : Int))]) rfl rfl Try.isAgg66 Try.sizeOf66 (blk_cells hb_b1 rfl)) (AllP.rd rfl ((Yield.slice rfl rfl rfl rfl Try.runUnderlying45 Try.sizeOf66 rfl rfl (by omega) (by omega) (by omega)).cast (v' := .slice (A) ((l.take p).length) (c)) ((slice_val0 rfl).trans (by rw [List.length_take, Nat.min_eq_left hple]))) (AllP.rd rfl (Yield.move rfl rfl) (AllP.rd rfl (Yield.move rfl rfl) AllP.nil))))), ?_⟩
        refine HT.effB2 (i := 4) (j := 6) (by kernel_rfl) ?_ ?_
        · have hv_0 : Nw w.heap.size encEn 66 [] (.slice (some ⟨b2, 0, none⟩) 0 0) w13 := ⟨Own.fresh hb_b2 rfl (by decide), fun q hq => by simp only [Value.ownBlock, Option.some.injEq] at hq; omega⟩
          have hl_hv_0_b1 : ∀ p_, (Value.slice (some ⟨b2, 0, none⟩) 0 0).ownBlock = some p_ → p_ ≠ b1 := fun p_ hp_ => by simp only [Value.ownBlock, Option.some.injEq] at hp_; omega
          refine HT.br (i := 4) _ rfl rfl rfl (Eff.pushD (E := encEn) (xs := []) (ys := (l.take p)) (bytes := 24) (i := Try.t66) (z := .agg #[.int .i64 (0), .int .u64 (0), .int .u64 (0)]) rfl rfl rfl rfl Try.underlying45 Try.underlying45 (by kernel_rfl) rfl rfl rfl rfl hO.size hv_0 ((Rd.ext (hr.take p) hO)) rfl (by rw [List.length_nil, List.length_take]; omega)) ?_
          rintro v_o1 w14 ⟨hw_o1, ho_w14, hd_w14⟩
          obtain ⟨A_o1, c_o1, rfl, hc_o1, hv_o1⟩ := hw_o1.toSl
          have hl_hv_o1_b1 : ∀ p_, (Value.slice A_o1 ([] ++ (l.take p)).length c_o1).ownBlock = some p_ → p_ ≠ b1 := fun p_ hp_ h3 => hd_w14 b1 (blk_lt hb_b1) (fun h => by have h1 := (hv_0).2 _ h; have h2 := hl_hv_0_b1 _ h; omega) (h3 ▸ hp_)
          replace hb_b1 := ho_w14.get hb_b1 (fun h => by have h1 := (hv_0).2 _ h; have h2 := hl_hv_0_b1 _ h; omega)
          replace hO := hO.trans ho_w14 (fun i hi1 h => by have h1 := (hv_0).2 _ h; first | (exfalso; omega) | omega)
          refine ⟨(AllP.rd rfl (Yield.move rfl rfl) (AllP.rd rfl (Yield.loadAgg (cs := [.int .i64 (x.f), .int .u64 ((x.n.toNat : Int)), .int .u64 ((x.t.toNat : Int))]) rfl rfl Try.isAgg66 Try.sizeOf66 (blk_cells hb_b1 rfl)) (AllP.ahead (by kernel_rfl) (AllP.ahead (by kernel_rfl) (AllP.ahead (by kernel_rfl) AllP.nil))))), ?_⟩
          refine HT.effC (i := 6) _ (by kernel_rfl) rfl rfl rfl (Eff.buildSlice (cs := [.int .i64 (x.f), .int .u64 ((x.n.toNat : Int)), .int .u64 ((x.t.toNat : Int))]) [.agg #[.int .i64 (x.f), .int .u64 ((x.n.toNat : Int)), .int .u64 ((x.t.toNat : Int))]] rfl rfl Try.runUnderlying45 Try.sizeOf66 Try.zeroValue66 rfl rfl rfl (List.forall_mem_cons.2 ⟨rfl, (fun _ h => nomatch h)⟩) rfl) ?_
          rintro _ w15 ⟨_, b3, rfl, hs_b3, rfl, he_w15⟩
          have hb_b3 : w15.heap[b3]? = some (.cells #[.int .i64 (x.f), .int .u64 ((x.n.toNat : Int)), .int .u64 ((x.t.toNat : Int))] 66 (0, 0)) := by rw [he_w15, hs_b3]; exact new_get _ _
          have ho_w15 : Ext w14 w15 := by rw [he_w15]; exact Ext.alloc _ _
          clear he_w15
          have hn_b3 : w.heap.size ≤ b3 := by rw [hs_b3]; exact hO.size
          have hl_hv_o1_b3 := Nw.below hv_o1 (Nat.le_of_eq hs_b3.symm)
          have hq_b1_b3 : b1 < b3 := by rw [hs_b3]; exact blk_lt hb_b1
          replace hb_b1 := ho_w15.get hb_b1
          replace hO := hO.ext ho_w15
          replace hv_o1 := hv_o1.ext ho_w15
          refine ⟨(AllP.rd rfl (Yield.move rfl rfl) (AllP.ahead (by kernel_rfl) (AllP.rd rfl ((Yield.slice rfl rfl rfl rfl Try.runUnderlying45 Try.sizeOf66 rfl rfl (by omega) (by omega) (by omega)).cast (v' := .slice (A) ((l.take p).length) (c)) ((slice_val0 rfl).trans (by rw [List.length_take, Nat.min_eq_left hple]))) (AllP.rd rfl (Yield.move rfl rfl) (AllP.rd rfl (Yield.move rfl rfl) AllP.nil))))), ?_⟩
          refine HT.effC (i := 7) _ (by kernel_rfl) rfl rfl rfl (Eff.pushD (E := encEn) (xs := ([] ++ (l.take p))) (ys := [x]) (bytes := 24) (i := Try.t66) (z := .agg #[.int .i64 (0), .int .u64 (0), .int .u64 (0)]) rfl rfl rfl rfl Try.underlying45 Try.underlying45 (by kernel_rfl) rfl rfl rfl rfl hO.size hv_o1 ((blk_rd (E := encEn) (l := [x]) hb_b3 rfl)) rfl (by rw [List.length_append, List.length_nil, List.length_take, List.length_singleton]; omega)) ?_
          rintro v_o2 w16 ⟨hw_o2, ho_w16, hd_w16⟩
          obtain ⟨A_o2, c_o2, rfl, hc_o2, hv_o2⟩ := hw_o2.toSl
          have hl_hv_o2_b1 : ∀ p_, (Value.slice A_o2 (([] ++ (l.take p)) ++ [x]).length c_o2).ownBlock = some p_ → p_ ≠ b1 := fun p_ hp_ h3 => hd_w16 b1 (blk_lt hb_b1) (fun h => by have h1 := (hv_o1).2 _ h; have h2 := hl_hv_o1_b1 _ h; omega) (h3 ▸ hp_)
          have hl_hv_o2_b3 : ∀ p_, (Value.slice A_o2 (([] ++ (l.take p)) ++ [x]).length c_o2).ownBlock = some p_ → p_ ≠ b3 := fun p_ hp_ h3 => hd_w16 b3 (blk_lt hb_b3) (fun h => by have h1 := (hv_o1).2 _ h; have h2 := hl_hv_o1_b3 _ h; omega) (h3 ▸ hp_)
          replace hb_b1 := ho_w16.get hb_b1 (fun h => by have h1 := (hv_o1).2 _ h; have h2 := hl_hv_o1_b1 _ h; omega)
          replace hb_b3 := ho_w16.get hb_b3 (fun h => by have h1 := (hv_o1).2 _ h; have h2 := hl_hv_o1_b3 _ h; omega)
          replace hO := hO.trans ho_w16 (fun i hi1 h => by have h1 := (hv_o1).2 _ h; first | (exfalso; omega) | omega)
          refine ⟨(AllP.rd rfl (Yield.move rfl rfl) (AllP.ahead (by kernel_rfl) (AllP.ahead (by kernel_rfl) (AllP.ahead (by kernel_rfl) (AllP.ahead (by kernel_rfl) AllP.nil))))), ?_⟩
          refine HT.fin (by kernel_rfl) ?_
          rintro _ rfl
          show WL _ _ _ _ _ _ _ _
          refine WL.eff _ rfl rfl (Eff.pushD (E := encEn) (xs := (([] ++ (l.take p)) ++ [x])) (ys := le) (bytes := 24) (i := Try.t66) (z := .agg #[.int .i64 (0), .int .u64 (0), .int .u64 (0)]) rfl rfl rfl rfl Try.underlying45 Try.underlying45 (by kernel_rfl) rfl rfl rfl rfl hO.size hv_o2 ((Rd.ext hR_e hO)) rfl (by simp only [List.length_append, List.length_nil, List.length_take, List.length_singleton]; omega)) ?_
          rintro v_o3 w17 ⟨hw_o3, ho_w17, hd_w17⟩
          obtain ⟨A_o3, c_o3, rfl, hc_o3, hv_o3⟩ := hw_o3.toSl
          have hl_hv_o3_b1 : ∀ p_, (Value.slice A_o3 ((([] ++ (l.take p)) ++ [x]) ++ le).length c_o3).ownBlock = some p_ → p_ ≠ b1 := fun p_ hp_ h3 => hd_w17 b1 (blk_lt hb_b1) (fun h => by have h1 := (hv_o2).2 _ h; have h2 := hl_hv_o2_b1 _ h; omega) (h3 ▸ hp_)
          have hl_hv_o3_b3 : ∀ p_, (Value.slice A_o3 ((([] ++ (l.take p)) ++ [x]) ++ le).length c_o3).ownBlock = some p_ → p_ ≠ b3 := fun p_ hp_ h3 => hd_w17 b3 (blk_lt hb_b3) (fun h => by have h1 := (hv_o2).2 _ h; have h2 := hl_hv_o2_b3 _ h; omega) (h3 ▸ hp_)
          replace hb_b1 := ho_w17.get hb_b1 (fun h => by have h1 := (hv_o2).2 _ h; have h2 := hl_hv_o2_b1 _ h; omega)
          replace hb_b3 := ho_w17.get hb_b3 (fun h => by have h1 := (hv_o2).2 _ h; have h2 := hl_hv_o2_b3 _ h; omega)
          replace hO := hO.trans ho_w17 (fun i hi1 h => by have h1 := (hv_o2).2 _ h; first | (exfalso; omega) | omega)
          refine WL.yield rfl rfl rfl (Yield.assign rfl rfl) ?_
          refine WL.fin ?_
          refine Nm.code ?_
          refine W.ret_post (fun _ _ h => h) Try.results36 rfl ?_
          have e : addR l x = (([] ++ (l.take p)) ++ [x]) ++ le := by unfold addR addB; rw [if_pos (by simp_all), ← hpe, ← hle]; simp
          rw [e]
          exact ⟨hO, _, _, rfl, hc_o3, hv_o3.rd⟩
        · refine HT.br (i := 6) _ rfl rfl rfl (Eff.buildSlice (cs := [.int .i64 (x.f), .int .u64 ((x.n.toNat : Int)), .int .u64 ((x.t.toNat : Int))]) [.agg #[.int .i64 (x.f), .int .u64 ((x.n.toNat : Int)), .int .u64 ((x.t.toNat : Int))]] rfl rfl Try.runUnderlying45 Try.sizeOf66 Try.zeroValue66 rfl rfl rfl (List.forall_mem_cons.2 ⟨rfl, (fun _ h => nomatch h)⟩) rfl) ?_
          rintro _ w18 ⟨_, b4, rfl, hs_b4, rfl, he_w18⟩
          have hb_b4 : w18.heap[b4]? = some (.cells #[.int .i64 (x.f), .int .u64 ((x.n.toNat : Int)), .int .u64 ((x.t.toNat : Int))] 66 (0, 0)) := by rw [he_w18, hs_b4]; exact new_get _ _
          have ho_w18 : Ext w13 w18 := by rw [he_w18]; exact Ext.alloc _ _
          clear he_w18
          have hn_b4 : w.heap.size ≤ b4 := by rw [hs_b4]; exact hO.size
          have hq_b1_b4 : b1 < b4 := by rw [hs_b4]; exact blk_lt hb_b1
          have hq_b2_b4 : b2 < b4 := by rw [hs_b4]; exact blk_lt hb_b2
          replace hb_b1 := ho_w18.get hb_b1
          replace hb_b2 := ho_w18.get hb_b2
          replace hO := hO.ext ho_w18
          refine ⟨(AllP.rd rfl (Yield.move rfl rfl) (AllP.ahead (by kernel_rfl) (AllP.rd rfl ((Yield.slice rfl rfl rfl rfl Try.runUnderlying45 Try.sizeOf66 rfl rfl (by omega) (by omega) (by omega)).cast (v' := .slice (A) ((l.take p).length) (c)) ((slice_val0 rfl).trans (by rw [List.length_take, Nat.min_eq_left hple]))) (AllP.rd rfl (Yield.move rfl rfl) (AllP.rd rfl (Yield.move rfl rfl) AllP.nil))))), ?_⟩
          have hv_0 : Nw w.heap.size encEn 66 [] (.slice (some ⟨b2, 0, none⟩) 0 0) w18 := ⟨Own.fresh hb_b2 rfl (by decide), fun q hq => by simp only [Value.ownBlock, Option.some.injEq] at hq; omega⟩
          have hl_hv_0_b1 : ∀ p_, (Value.slice (some ⟨b2, 0, none⟩) 0 0).ownBlock = some p_ → p_ ≠ b1 := fun p_ hp_ => by simp only [Value.ownBlock, Option.some.injEq] at hp_; omega
          have hl_hv_0_b4 : ∀ p_, (Value.slice (some ⟨b2, 0, none⟩) 0 0).ownBlock = some p_ → p_ ≠ b4 := fun p_ hp_ => by simp only [Value.ownBlock, Option.some.injEq] at hp_; omega
          refine HT.effC (i := 4) _ (by kernel_rfl) rfl rfl rfl (Eff.pushD (E := encEn) (xs := []) (ys := (l.take p)) (bytes := 24) (i := Try.t66) (z := .agg #[.int .i64 (0), .int .u64 (0), .int .u64 (0)]) rfl rfl rfl rfl Try.underlying45 Try.underlying45 (by kernel_rfl) rfl rfl rfl rfl hO.size hv_0 ((Rd.ext (hr.take p) hO)) rfl (by rw [List.length_nil, List.length_take]; omega)) ?_
          rintro v_o1 w19 ⟨hw_o1, ho_w19, hd_w19⟩
          obtain ⟨A_o1, c_o1, rfl, hc_o1, hv_o1⟩ := hw_o1.toSl
          have hl_hv_o1_b1 : ∀ p_, (Value.slice A_o1 ([] ++ (l.take p)).length c_o1).ownBlock = some p_ → p_ ≠ b1 := fun p_ hp_ h3 => hd_w19 b1 (blk_lt hb_b1) (fun h => by have h1 := (hv_0).2 _ h; have h2 := hl_hv_0_b1 _ h; omega) (h3 ▸ hp_)
          have hl_hv_o1_b4 : ∀ p_, (Value.slice A_o1 ([] ++ (l.take p)).length c_o1).ownBlock = some p_ → p_ ≠ b4 := fun p_ hp_ h3 => hd_w19 b4 (blk_lt hb_b4) (fun h => by have h1 := (hv_0).2 _ h; have h2 := hl_hv_0_b4 _ h; omega) (h3 ▸ hp_)
          replace hb_b1 := ho_w19.get hb_b1 (fun h => by have h1 := (hv_0).2 _ h; have h2 := hl_hv_0_b1 _ h; omega)
          replace hb_b4 := ho_w19.get hb_b4 (fun h => by have h1 := (hv_0).2 _ h; have h2 := hl_hv_0_b4 _ h; omega)
          replace hO := hO.trans ho_w19 (fun i hi1 h => by have h1 := (hv_0).2 _ h; first | (exfalso; omega) | omega)
          refine ⟨(AllP.rd rfl (Yield.move rfl rfl) (AllP.rd rfl (Yield.loadAgg (cs := [.int .i64 (x.f), .int .u64 ((x.n.toNat : Int)), .int .u64 ((x.t.toNat : Int))]) rfl rfl Try.isAgg66 Try.sizeOf66 (blk_cells hb_b1 rfl)) (AllP.ahead (by kernel_rfl) (AllP.ahead (by kernel_rfl) (AllP.ahead (by kernel_rfl) AllP.nil))))), ?_⟩
          refine HT.effC (i := 7) _ (by kernel_rfl) rfl rfl rfl (Eff.pushD (E := encEn) (xs := ([] ++ (l.take p))) (ys := [x]) (bytes := 24) (i := Try.t66) (z := .agg #[.int .i64 (0), .int .u64 (0), .int .u64 (0)]) rfl rfl rfl rfl Try.underlying45 Try.underlying45 (by kernel_rfl) rfl rfl rfl rfl hO.size hv_o1 ((blk_rd (E := encEn) (l := [x]) hb_b4 rfl)) rfl (by rw [List.length_append, List.length_nil, List.length_take, List.length_singleton]; omega)) ?_
          rintro v_o2 w20 ⟨hw_o2, ho_w20, hd_w20⟩
          obtain ⟨A_o2, c_o2, rfl, hc_o2, hv_o2⟩ := hw_o2.toSl
          have hl_hv_o2_b1 : ∀ p_, (Value.slice A_o2 (([] ++ (l.take p)) ++ [x]).length c_o2).ownBlock = some p_ → p_ ≠ b1 := fun p_ hp_ h3 => hd_w20 b1 (blk_lt hb_b1) (fun h => by have h1 := (hv_o1).2 _ h; have h2 := hl_hv_o1_b1 _ h; omega) (h3 ▸ hp_)
          have hl_hv_o2_b4 : ∀ p_, (Value.slice A_o2 (([] ++ (l.take p)) ++ [x]).length c_o2).ownBlock = some p_ → p_ ≠ b4 := fun p_ hp_ h3 => hd_w20 b4 (blk_lt hb_b4) (fun h => by have h1 := (hv_o1).2 _ h; have h2 := hl_hv_o1_b4 _ h; omega) (h3 ▸ hp_)
          replace hb_b1 := ho_w20.get hb_b1 (fun h => by have h1 := (hv_o1).2 _ h; have h2 := hl_hv_o1_b1 _ h; omega)
          replace hb_b4 := ho_w20.get hb_b4 (fun h => by have h1 := (hv_o1).2 _ h; have h2 := hl_hv_o1_b4 _ h; omega)
          replace hO := hO.trans ho_w20 (fun i hi1 h => by have h1 := (hv_o1).2 _ h; first | (exfalso; omega) | omega)
          refine ⟨(AllP.rd rfl (Yield.move rfl rfl) (AllP.ahead (by kernel_rfl) (AllP.ahead (by kernel_rfl) (AllP.ahead (by kernel_rfl) (AllP.ahead (by kernel_rfl) AllP.nil))))), ?_⟩
          refine HT.fin (by kernel_rfl) ?_
          rintro _ rfl
          show WL _ _ _ _ _ _ _ _
          refine WL.eff _ rfl rfl (Eff.pushD (E := encEn) (xs := (([] ++ (l.take p)) ++ [x])) (ys := le) (bytes := 24) (i := Try.t66) (z := .agg #[.int .i64 (0), .int .u64 (0), .int .u64 (0)]) rfl rfl rfl rfl Try.underlying45 Try.underlying45 (by kernel_rfl) rfl rfl rfl rfl hO.size hv_o2 ((Rd.ext hR_e hO)) rfl (by simp only [List.length_append, List.length_nil, List.length_take, List.length_singleton]; omega)) ?_
          rintro v_o3 w21 ⟨hw_o3, ho_w21, hd_w21⟩
          obtain ⟨A_o3, c_o3, rfl, hc_o3, hv_o3⟩ := hw_o3.toSl
          have hl_hv_o3_b1 : ∀ p_, (Value.slice A_o3 ((([] ++ (l.take p)) ++ [x]) ++ le).length c_o3).ownBlock = some p_ → p_ ≠ b1 := fun p_ hp_ h3 => hd_w21 b1 (blk_lt hb_b1) (fun h => by have h1 := (hv_o2).2 _ h; have h2 := hl_hv_o2_b1 _ h; omega) (h3 ▸ hp_)
          have hl_hv_o3_b4 : ∀ p_, (Value.slice A_o3 ((([] ++ (l.take p)) ++ [x]) ++ le).length c_o3).ownBlock = some p_ → p_ ≠ b4 := fun p_ hp_ h3 => hd_w21 b4 (blk_lt hb_b4) (fun h => by have h1 := (hv_o2).2 _ h; have h2 := hl_hv_o2_b4 _ h; omega) (h3 ▸ hp_)
          replace hb_b1 := ho_w21.get hb_b1 (fun h => by have h1 := (hv_o2).2 _ h; have h2 := hl_hv_o2_b1 _ h; omega)
          replace hb_b4 := ho_w21.get hb_b4 (fun h => by have h1 := (hv_o2).2 _ h; have h2 := hl_hv_o2_b4 _ h; omega)
          replace hO := hO.trans ho_w21 (fun i hi1 h => by have h1 := (hv_o2).2 _ h; first | (exfalso; omega) | omega)
          refine WL.yield rfl rfl rfl (Yield.assign rfl rfl) ?_
          refine WL.fin ?_
          refine Nm.code ?_
          refine W.ret_post (fun _ _ h => h) Try.results36 rfl ?_
          have e : addR l x = (([] ++ (l.take p)) ++ [x]) ++ le := by unfold addR addB; rw [if_pos (by simp_all), ← hpe, ← hle]; simp
          rw [e]
          exact ⟨hO, _, _, rfl, hc_o3, hv_o3.rd⟩
      · refine HT.br (i := 6) _ rfl rfl rfl (Eff.buildSlice (cs := [.int .i64 (x.f), .int .u64 ((x.n.toNat : Int)), .int .u64 ((x.t.toNat : Int))]) [.agg #[.int .i64 (x.f), .int .u64 ((x.n.toNat : Int)), .int .u64 ((x.t.toNat : Int))]] rfl rfl Try.runUnderlying45 Try.sizeOf66 Try.zeroValue66 rfl rfl rfl (List.forall_mem_cons.2 ⟨rfl, (fun _ h => nomatch h)⟩) rfl) ?_
        rintro _ w22 ⟨_, b5, rfl, hs_b5, rfl, he_w22⟩
        have hb_b5 : w22.heap[b5]? = some (.cells #[.int .i64 (x.f), .int .u64 ((x.n.toNat : Int)), .int .u64 ((x.t.toNat : Int))] 66 (0, 0)) := by rw [he_w22, hs_b5]; exact new_get _ _
        have ho_w22 : Ext w9 w22 := by rw [he_w22]; exact Ext.alloc _ _
        clear he_w22
        have hn_b5 : w.heap.size ≤ b5 := by rw [hs_b5]; exact hO.size
        have hq_b1_b5 : b1 < b5 := by rw [hs_b5]; exact blk_lt hb_b1
        replace hb_b1 := ho_w22.get hb_b1
        replace hO := hO.ext ho_w22
        refine ⟨(AllP.rd rfl (Yield.move rfl rfl) (AllP.ahead (by kernel_rfl) (AllP.rd rfl ((Yield.slice rfl rfl rfl rfl Try.runUnderlying45 Try.sizeOf66 rfl rfl (by omega) (by omega) (by omega)).cast (v' := .slice (A) ((l.take p).length) (c)) ((slice_val0 rfl).trans (by rw [List.length_take, Nat.min_eq_left hple]))) (AllP.rd rfl (Yield.move rfl rfl) (AllP.rd rfl (Yield.move rfl rfl) AllP.nil))))), ?_⟩
        refine HT.effC (i := 0) _ (by kernel_rfl) rfl rfl rfl (Eff.buildEmpty rfl Try.runUnderlying45 Try.sizeOf66) ?_
        rintro _ w23 ⟨_, b6, rfl, hs_b6, rfl, he_w23⟩
        have hb_b6 : w23.heap[b6]? = some (.cells #[] 66 (0, 0)) := by rw [he_w23, hs_b6]; exact new_get _ _
        have ho_w23 : Ext w22 w23 := by rw [he_w23]; exact Ext.alloc _ _
        clear he_w23
        have hn_b6 : w.heap.size ≤ b6 := by rw [hs_b6]; exact hO.size
        have hq_b1_b6 : b1 < b6 := by rw [hs_b6]; exact blk_lt hb_b1
        have hq_b5_b6 : b5 < b6 := by rw [hs_b6]; exact blk_lt hb_b5
        replace hb_b1 := ho_w23.get hb_b1
        replace hb_b5 := ho_w23.get hb_b5
        replace hO := hO.ext ho_w23
        refine ⟨(AllP.rd rfl (Yield.move rfl rfl) (AllP.rd rfl (Yield.loadAgg (cs := [.int .i64 (x.f), .int .u64 ((x.n.toNat : Int)), .int .u64 ((x.t.toNat : Int))]) rfl rfl Try.isAgg66 Try.sizeOf66 (blk_cells hb_b1 rfl)) (AllP.rd rfl ((Yield.slice rfl rfl rfl rfl Try.runUnderlying45 Try.sizeOf66 rfl rfl (by omega) (by omega) (by omega)).cast (v' := .slice (A) ((l.take p).length) (c)) ((slice_val0 rfl).trans (by rw [List.length_take, Nat.min_eq_left hple]))) (AllP.rd rfl (Yield.move rfl rfl) (AllP.rd rfl (Yield.move rfl rfl) AllP.nil))))), ?_⟩
        have hv_0 : Nw w.heap.size encEn 66 [] (.slice (some ⟨b6, 0, none⟩) 0 0) w23 := ⟨Own.fresh hb_b6 rfl (by decide), fun q hq => by simp only [Value.ownBlock, Option.some.injEq] at hq; omega⟩
        have hl_hv_0_b1 : ∀ p_, (Value.slice (some ⟨b6, 0, none⟩) 0 0).ownBlock = some p_ → p_ ≠ b1 := fun p_ hp_ => by simp only [Value.ownBlock, Option.some.injEq] at hp_; omega
        have hl_hv_0_b5 : ∀ p_, (Value.slice (some ⟨b6, 0, none⟩) 0 0).ownBlock = some p_ → p_ ≠ b5 := fun p_ hp_ => by simp only [Value.ownBlock, Option.some.injEq] at hp_; omega
        refine HT.effC (i := 4) _ (by kernel_rfl) rfl rfl rfl (Eff.pushD (E := encEn) (xs := []) (ys := (l.take p)) (bytes := 24) (i := Try.t66) (z := .agg #[.int .i64 (0), .int .u64 (0), .int .u64 (0)]) rfl rfl rfl rfl Try.underlying45 Try.underlying45 (by kernel_rfl) rfl rfl rfl rfl hO.size hv_0 ((Rd.ext (hr.take p) hO)) rfl (by rw [List.length_nil, List.length_take]; omega)) ?_
        rintro v_o1 w24 ⟨hw_o1, ho_w24, hd_w24⟩
        obtain ⟨A_o1, c_o1, rfl, hc_o1, hv_o1⟩ := hw_o1.toSl
        have hl_hv_o1_b1 : ∀ p_, (Value.slice A_o1 ([] ++ (l.take p)).length c_o1).ownBlock = some p_ → p_ ≠ b1 := fun p_ hp_ h3 => hd_w24 b1 (blk_lt hb_b1) (fun h => by have h1 := (hv_0).2 _ h; have h2 := hl_hv_0_b1 _ h; omega) (h3 ▸ hp_)
        have hl_hv_o1_b5 : ∀ p_, (Value.slice A_o1 ([] ++ (l.take p)).length c_o1).ownBlock = some p_ → p_ ≠ b5 := fun p_ hp_ h3 => hd_w24 b5 (blk_lt hb_b5) (fun h => by have h1 := (hv_0).2 _ h; have h2 := hl_hv_0_b5 _ h; omega) (h3 ▸ hp_)
        replace hb_b1 := ho_w24.get hb_b1 (fun h => by have h1 := (hv_0).2 _ h; have h2 := hl_hv_0_b1 _ h; omega)
        replace hb_b5 := ho_w24.get hb_b5 (fun h => by have h1 := (hv_0).2 _ h; have h2 := hl_hv_0_b5 _ h; omega)
        replace hO := hO.trans ho_w24 (fun i hi1 h => by have h1 := (hv_0).2 _ h; first | (exfalso; omega) | omega)
        refine ⟨(AllP.rd rfl (Yield.move rfl rfl) (AllP.rd rfl (Yield.loadAgg (cs := [.int .i64 (x.f), .int .u64 ((x.n.toNat : Int)), .int .u64 ((x.t.toNat : Int))]) rfl rfl Try.isAgg66 Try.sizeOf66 (blk_cells hb_b1 rfl)) (AllP.ahead (by kernel_rfl) (AllP.ahead (by kernel_rfl) (AllP.ahead (by kernel_rfl) AllP.nil))))), ?_⟩
        refine HT.effC (i := 7) _ (by kernel_rfl) rfl rfl rfl (Eff.pushD (E := encEn) (xs := ([] ++ (l.take p))) (ys := [x]) (bytes := 24) (i := Try.t66) (z := .agg #[.int .i64 (0), .int .u64 (0), .int .u64 (0)]) rfl rfl rfl rfl Try.underlying45 Try.underlying45 (by kernel_rfl) rfl rfl rfl rfl hO.size hv_o1 ((blk_rd (E := encEn) (l := [x]) hb_b5 rfl)) rfl (by rw [List.length_append, List.length_nil, List.length_take, List.length_singleton]; omega)) ?_
        rintro v_o2 w25 ⟨hw_o2, ho_w25, hd_w25⟩
        obtain ⟨A_o2, c_o2, rfl, hc_o2, hv_o2⟩ := hw_o2.toSl
        have hl_hv_o2_b1 : ∀ p_, (Value.slice A_o2 (([] ++ (l.take p)) ++ [x]).length c_o2).ownBlock = some p_ → p_ ≠ b1 := fun p_ hp_ h3 => hd_w25 b1 (blk_lt hb_b1) (fun h => by have h1 := (hv_o1).2 _ h; have h2 := hl_hv_o1_b1 _ h; omega) (h3 ▸ hp_)
        have hl_hv_o2_b5 : ∀ p_, (Value.slice A_o2 (([] ++ (l.take p)) ++ [x]).length c_o2).ownBlock = some p_ → p_ ≠ b5 := fun p_ hp_ h3 => hd_w25 b5 (blk_lt hb_b5) (fun h => by have h1 := (hv_o1).2 _ h; have h2 := hl_hv_o1_b5 _ h; omega) (h3 ▸ hp_)
        replace hb_b1 := ho_w25.get hb_b1 (fun h => by have h1 := (hv_o1).2 _ h; have h2 := hl_hv_o1_b1 _ h; omega)
        replace hb_b5 := ho_w25.get hb_b5 (fun h => by have h1 := (hv_o1).2 _ h; have h2 := hl_hv_o1_b5 _ h; omega)
        replace hO := hO.trans ho_w25 (fun i hi1 h => by have h1 := (hv_o1).2 _ h; first | (exfalso; omega) | omega)
        refine ⟨(AllP.rd rfl (Yield.move rfl rfl) (AllP.ahead (by kernel_rfl) (AllP.ahead (by kernel_rfl) (AllP.ahead (by kernel_rfl) (AllP.ahead (by kernel_rfl) AllP.nil))))), ?_⟩
        refine HT.fin (by kernel_rfl) ?_
        rintro _ rfl
        show WL _ _ _ _ _ _ _ _
        refine WL.eff _ rfl rfl (Eff.pushD (E := encEn) (xs := (([] ++ (l.take p)) ++ [x])) (ys := le) (bytes := 24) (i := Try.t66) (z := .agg #[.int .i64 (0), .int .u64 (0), .int .u64 (0)]) rfl rfl rfl rfl Try.underlying45 Try.underlying45 (by kernel_rfl) rfl rfl rfl rfl hO.size hv_o2 ((Rd.ext hR_e hO)) rfl (by simp only [List.length_append, List.length_nil, List.length_take, List.length_singleton]; omega)) ?_
        rintro v_o3 w26 ⟨hw_o3, ho_w26, hd_w26⟩
        obtain ⟨A_o3, c_o3, rfl, hc_o3, hv_o3⟩ := hw_o3.toSl
        have hl_hv_o3_b1 : ∀ p_, (Value.slice A_o3 ((([] ++ (l.take p)) ++ [x]) ++ le).length c_o3).ownBlock = some p_ → p_ ≠ b1 := fun p_ hp_ h3 => hd_w26 b1 (blk_lt hb_b1) (fun h => by have h1 := (hv_o2).2 _ h; have h2 := hl_hv_o2_b1 _ h; omega) (h3 ▸ hp_)
        have hl_hv_o3_b5 : ∀ p_, (Value.slice A_o3 ((([] ++ (l.take p)) ++ [x]) ++ le).length c_o3).ownBlock = some p_ → p_ ≠ b5 := fun p_ hp_ h3 => hd_w26 b5 (blk_lt hb_b5) (fun h => by have h1 := (hv_o2).2 _ h; have h2 := hl_hv_o2_b5 _ h; omega) (h3 ▸ hp_)
        replace hb_b1 := ho_w26.get hb_b1 (fun h => by have h1 := (hv_o2).2 _ h; have h2 := hl_hv_o2_b1 _ h; omega)
        replace hb_b5 := ho_w26.get hb_b5 (fun h => by have h1 := (hv_o2).2 _ h; have h2 := hl_hv_o2_b5 _ h; omega)
        replace hO := hO.trans ho_w26 (fun i hi1 h => by have h1 := (hv_o2).2 _ h; first | (exfalso; omega) | omega)
        refine WL.yield rfl rfl rfl (Yield.assign rfl rfl) ?_
        refine WL.fin ?_
        refine Nm.code ?_
        refine W.ret_post (fun _ _ h => h) Try.results36 rfl ?_
        have e : addR l x = (([] ++ (l.take p)) ++ [x]) ++ le := by unfold addR addB; rw [if_pos (by simp_all), ← hpe, ← hle]; simp
        rw [e]
        exact ⟨hO, _, _, rfl, hc_o3, hv_o3.rd⟩

end Go.Proofs.Ytpnoddfjklcahaa
