import Derived.Test.YtpnoddfjklcahaaTr8
import Derived.Test.YtpnoddfjklcahaaDa3

set_option linter.all false
namespace Go.Proofs.Ytpnoddfjklcahaa
open Go Go.Lv Go.RowKit Go.Shoal


theorem purges_any (w : World) (A : Option Addr) (c : Nat) (l : List En) (hr : Rd encEn w A l) :
    Fc Try.prog 6 #[.slice (A) (l.length) (c)] w (fun v w' => Ext w w' ∧ v = .bool true) := by
  refine Fc.enter (args := [.slice (A) (l.length) (c)]) Try.func6 rfl Try.ntmps6 rfl ?_
  intro K_
  have hO : Only (fun _ => False) w w := Only.refl _ _
  refine W.seq ?_
  refine W.region ?_
  refine WL.yield rfl rfl rfl (Yield.assign rfl rfl) ?_
  refine WL.fin ?_
  refine Nm.code ?_
  refine W.seq ?_
  refine W.seq ?_
  refine W.region ?_
  refine WL.eff _ rfl rfl (Eff.fn rfl rfl Try.call20 (by rintro _ rfl; exact awake18 _)) ?_
  have hz_w := hO.size
  rintro _ w1 ⟨ho_w1, rfl⟩
  replace hO := hO.ext ho_w1
  refine WL.yield rfl rfl rfl (Yield.not rfl rfl) ?_
  refine WL.fin ?_
  refine Nm.code ?_
  refine W.cond_false rfl ?_
  refine W.skipN ?_
  refine Nm.code ?_
  refine W.seq ?_
  refine W.region ?_
  refine WL.yield rfl rfl rfl (Yield.move rfl rfl) ?_
  refine WL.yield rfl rfl rfl (Yield.build (cells := #[.slice (A) (l.length) (c)]) rfl rfl (by kernel_rfl)) ?_
  refine WL.eff _ rfl rfl (Eff.alloc rfl Try.zeroValue41) ?_
  rintro _ w2 ⟨_, b1, rfl, hs_b1, rfl, he_w2⟩
  have hb_b1 : w2.heap[b1]? = some (.cells #[.slice (none) (0) (0)] 41 (0, 0)) := by rw [he_w2, hs_b1]; exact new_get _ _
  have ho_w2 : Ext w1 w2 := by rw [he_w2]; exact Ext.alloc _ _
  clear he_w2
  have hn_b1 : w.heap.size ≤ b1 := by rw [hs_b1]; exact hO.size
  replace hO := hO.ext ho_w2
  refine WL.eff _ rfl rfl (Eff.storeBlk (vs := [.slice (A) (l.length) (c)]) (cs := [.slice (none) (0) (0)]) (cs' := [.slice (A) (l.length) (c)]) rfl rfl rfl Try.sizeOf41 rfl (List.forall_mem_cons.2 ⟨rfl, (fun _ h => nomatch h)⟩) hb_b1 rfl rfl) ?_
  rintro _ w3 ⟨ho_w3, hb_new⟩
  replace hb_b1 := hb_new
  replace hO := hO.trans ho_w3 (by intro i hi1 hi2; first | exact hi2 | (exfalso; omega) | (left; exact hi2) | (right; exact hi2) | (right; left; exact hi2))
  refine WL.fin ?_
  refine Nm.code ?_
  refine W.seq ?_
  refine W.seq ?_
  refine W.region ?_
  refine WL.yield rfl rfl rfl (Yield.move rfl rfl) ?_
  refine WL.yield rfl rfl rfl (Yield.lenSlice rfl rfl Try.runUnderlying39) ?_
  refine WL.yield rfl rfl rfl (Yield.ar (v' := .bool (decide (l.length > 40))) rfl rfl rfl rfl (bool_dec (by omega))) ?_
  refine WL.yield rfl rfl rfl (Yield.move rfl rfl) ?_
  by_cases hg40 : l.length > 40
  · rw [decide_eq_true hg40]
    refine WL.skip_g rfl rfl rfl ?_
    refine WL.skip_g rfl rfl rfl ?_
    refine WL.skip_g rfl rfl rfl ?_
    refine WL.yield rfl rfl rfl (Yield.pick_t rfl rfl rfl) ?_
    refine WL.fin ?_
    refine Nm.code ?_
    refine W.cond_true rfl ?_
    refine W.seq ?_
    refine W.region ?_
    refine WL.yield rfl rfl rfl (Yield.assign rfl rfl) ?_
    refine WL.fin ?_
    refine Nm.code ?_
    refine W.ret_post (fun _ _ h => h) Try.results6 rfl ?_
    exact ⟨hO, bool_eq (by first | rfl | exact purge_good hgood)⟩
  · rw [decide_eq_false hg40]
    have hlen : l.length ≤ 100000 := by omega
    refine WL.yield_g rfl rfl rfl (Yield.loadAgg (cs := [.slice (A) (l.length) (c)]) rfl rfl Try.isAgg41 Try.sizeOf41 (blk_cells hb_b1 rfl)) ?_
    refine WL.eff _ rfl rfl (Eff.fn rfl rfl Try.call21 (by rintro _ rfl; exact good_any _ _ _ _ (hr.ext hO) hlen)) ?_
    have hlt_b1_w3 : b1 < w3.heap.size := blk_lt hb_b1
    have hz_w3 := hO.size
    rintro _ w4 ⟨ho_w4, rfl⟩
    replace hb_b1 := ho_w4.get hb_b1
    replace hO := hO.ext ho_w4
    refine WL.yield_g rfl rfl rfl (Yield.not rfl rfl) ?_
    refine WL.yield rfl rfl rfl (Yield.pick_f rfl rfl rfl) ?_
    refine WL.fin ?_
    refine Nm.code ?_
    refine W.cond rfl (fun hc1 => ?_) (fun hc1 => ?_)
    · refine W.seq ?_
      refine W.region ?_
      refine WL.yield rfl rfl rfl (Yield.assign rfl rfl) ?_
      refine WL.fin ?_
      refine Nm.code ?_
      refine W.ret_post (fun _ _ h => h) Try.results6 rfl ?_
      exact ⟨hO, bool_eq (by first | rfl | exact purge_good hgood)⟩
    · have hgood : good l = true := by simpa using hc1
      have hpl := purge_len l
      refine W.skipN ?_
      refine Nm.code ?_
      refine W.seq ?_
      refine W.region ?_
      refine WL.yield rfl rfl rfl (Yield.loadAgg (cs := [.slice (A) (l.length) (c)]) rfl rfl Try.isAgg41 Try.sizeOf41 (blk_cells hb_b1 rfl)) ?_
      refine WL.eff _ rfl rfl (Eff.fn rfl rfl Try.call22 (by rintro _ rfl; exact Fc.mono (purge_any _ _ _ _ (hr.ext hO) hlen) (fun v w' h => by rw [purgeT_good hgood] at h; exact h))) ?_
      have hlt_b1_w4 : b1 < w4.heap.size := blk_lt hb_b1
      have hz_w4 := hO.size
      rintro _ w5 ⟨ho_w5, ⟨A_21, c_21, rfl, hc_21, hv_21⟩⟩
      replace hb_b1 := ho_w5.get hb_b1
      replace hO := hO.ext ho_w5
      refine WL.eff _ rfl rfl (Eff.alloc rfl Try.zeroValue41) ?_
      rintro _ w6 ⟨_, b2, rfl, hs_b2, rfl, he_w6⟩
      have hb_b2 : w6.heap[b2]? = some (.cells #[.slice (none) (0) (0)] 41 (0, 0)) := by rw [he_w6, hs_b2]; exact new_get _ _
      have ho_w6 : Ext w5 w6 := by rw [he_w6]; exact Ext.alloc _ _
      clear he_w6
      have hn_b2 : w.heap.size ≤ b2 := by rw [hs_b2]; exact hO.size
      have hl_hv_21_b2 := Nw.below hv_21 (Nat.le_of_eq hs_b2.symm)
      have hq_b1_b2 : b1 < b2 := by rw [hs_b2]; exact blk_lt hb_b1
      replace hb_b1 := ho_w6.get hb_b1
      replace hO := hO.ext ho_w6
      replace hv_21 := hv_21.ext ho_w6
      refine WL.eff _ rfl rfl (Eff.storeBlk (vs := [.slice (A_21) ((purgeL l).length) (c_21)]) (cs := [.slice (none) (0) (0)]) (cs' := [.slice (A_21) ((purgeL l).length) (c_21)]) rfl rfl rfl Try.sizeOf41 rfl (List.forall_mem_cons.2 ⟨rfl, (fun _ h => nomatch h)⟩) hb_b2 rfl rfl) ?_
      rintro _ w7 ⟨ho_w7, hb_new⟩
      replace hb_b1 := ho_w7.get hb_b1 (by omega)
      replace hb_b2 := hb_new
      replace hO := hO.trans ho_w7 (by intro i hi1 hi2; first | exact hi2 | (exfalso; omega) | (left; exact hi2) | (right; exact hi2) | (right; left; exact hi2))
      replace hv_21 := hv_21.only ho_w7 (fun q hq h => absurd (show q = b2 from h) (by have := hv_21.2 q hq; have := hl_hv_21_b2 q hq; omega))
      refine WL.fin ?_
      refine Nm.code ?_
      refine W.seq ?_
      refine W.region ?_
      refine WL.yield rfl rfl rfl (Yield.assign rfl rfl) ?_
      refine WL.fin ?_
      refine Nm.code ?_
      refine W.seq ?_
      refine W.seq ?_
      refine W.region ?_
      refine WL.yield rfl rfl rfl (Yield.assign rfl rfl) ?_
      refine WL.fin ?_
      refine Nm.code ?_
      refine W.block ?_
      have hz_w7 := hO.size
      have hlt_b1_w7 : b1 < w7.heap.size := blk_lt hb_b1
      have hlt_b2_w7 : b2 < w7.heap.size := blk_lt hb_b2
      refine W.loop (σ := Nat) (fun i => [(0, .slice (A) (l.length) (c)), (9, .bool false), (19, .bool (!(good l))), (4, .pointer (some ⟨b2, 0, none⟩)), (6, .int .i64 (i)), (5, .int .i64 ((cntT ((purgeL l).take i) : Int)))]) (fun i ww => ((i ≤ (purgeL l).length) ∧ Ext w7 ww)) (fun i => ((purgeL l).length - i)) 0 (Env.has_cons rfl (Env.has_cons rfl (Env.has_cons rfl (Env.has_cons rfl (Env.has_cons rfl (Env.has_cons rfl Env.has_nil)))))) ⟨Nat.zero_le _, Ext.refl _⟩ ?_
      rintro i w8 ⟨hp, hE_lo1⟩
      have hb_b1_lo1 := hb_b1
      replace hb_b1 := Ext.get hE_lo1 hb_b1_lo1
      have hb_b2_lo1 := hb_b2
      replace hb_b2 := Ext.get hE_lo1 hb_b2_lo1
      have hO_lo1 := hO
      replace hO := hO_lo1.ext hE_lo1
      have hv_21_lo1 := hv_21
      replace hv_21 := hv_21_lo1.ext hE_lo1
      refine W.seq ?_
      refine W.seq ?_
      refine W.region ?_
      refine WL.yield rfl rfl rfl (Yield.move rfl rfl) ?_
      refine WL.yield rfl rfl rfl (Yield.fieldAt (k := 0) rfl rfl Try.runUnderlying41 rfl Try.sizeOf39 rfl) ?_
      refine WL.yield rfl rfl rfl (Yield.load (v := .slice (A_21) ((purgeL l).length) (c_21)) rfl rfl Try.isAgg39 (cell_get hb_b2 rfl)) ?_
      refine WL.yield rfl rfl rfl (Yield.lenSlice rfl rfl Try.runUnderlying39) ?_
      refine WL.yield rfl rfl rfl (Yield.bin rfl rfl rfl rfl) ?_
      refine WL.fin ?_
      refine Nm.code ?_
      refine W.cond_dec rfl (fun hi => ?_) (fun hi => ?_)
      · have hlt_x : i < (purgeL l).length := by omega
        obtain ⟨ad2, rfl⟩ := (hv_21.rd).addr hlt_x
        obtain ⟨x, hx⟩ := getD_some hlt_x
        refine W.skipN ?_
        refine Nm.code ?_
        refine W.seq ?_
        refine W.block ?_
        refine W.seq ?_
        refine W.seq ?_
        have hlt_b1_w8 : b1 < w8.heap.size := blk_lt hb_b1
        have hlt_b2_w8 : b2 < w8.heap.size := blk_lt hb_b2
        have hz_w8 := hO.size
        refine W.region_flat 29 Try_follows (by kernel_rfl) (by kernel_rfl) rfl ?_
        refine FL.run (i := 0) [] false (fun v_ _ => v_ = .pointer (some ⟨b2, 0, none⟩)) rfl rfl rfl (by kernel_rfl) (Stable.eq _) ?_ ?_
        · intro wb1 ho_wb1
          exact And.intro rfl (Eff.reads (Yield.fieldAt (k := 0) rfl rfl Try.runUnderlying41 rfl Try.sizeOf39 rfl) rfl)
        refine FL.run (i := 1) [0] false (fun v_ _ => v_ = .slice (some ad2) ((purgeL l).length) (c_21)) rfl rfl rfl (by kernel_rfl) (Stable.eq _) ?_ ?_
        · intro wb1 ho_wb1
          rintro _ rfl
          have hb_b2 := ho_wb1.get hb_b2
          exact And.intro rfl (Eff.reads (Yield.load (v := .slice (some ad2) ((purgeL l).length) (c_21)) rfl rfl Try.isAgg39 (cell_get hb_b2 rfl)) rfl)
        refine FL.run (i := 2) [] false (fun v_ _ => v_ = .int .i64 (i)) rfl rfl rfl (by kernel_rfl) (Stable.eq _) ?_ ?_
        · intro wb1 ho_wb1
          exact And.intro rfl (Eff.reads (Yield.move rfl rfl) rfl)
        refine FL.run (i := 3) [1, 2] false (fun v_ _ => v_ = .pointer (some ((ad2).add (i * 3)))) rfl rfl rfl (by kernel_rfl) (Stable.eq _) ?_ ?_
        · intro wb1 ho_wb1
          rintro _ rfl
          rintro _ rfl
          exact And.intro rfl (Eff.reads (Yield.indexNat i rfl rfl rfl Try.runUnderlying39 Try.sizeOf51 (by omega)) rfl)
        refine FL.run (i := 4) [3] false (fun v_ _ => v_ = .pointer (some (((ad2).add (i * 3)).add 2))) rfl rfl rfl (by kernel_rfl) (Stable.eq _) ?_ ?_
        · intro wb1 ho_wb1
          rintro _ rfl
          exact And.intro rfl (Eff.reads (Yield.fieldAddr rfl rfl Try.runUnderlying51 rfl Try.sizeOf49) rfl)
        refine FL.run (i := 5) [4] false (fun v_ _ => v_ = .int .u64 ((x.t.toNat : Int))) rfl rfl rfl (by kernel_rfl) (Stable.eq _) ?_ ?_
        · intro wb1 ho_wb1
          rintro _ rfl
          have hv_21 := hv_21.ext ho_wb1
          exact And.intro rfl (Eff.reads (Yield.load (v := .int .u64 ((x.t.toNat : Int))) rfl rfl Try.isAgg49 (Rd.at (hv_21.rd) hx 2 _ rfl)) rfl)
        refine FL.run (i := 6) [5] false (fun v_ _ => v_ = .bool (decide (x.t = 0))) rfl rfl rfl (by kernel_rfl) (Stable.eq _) ?_ ?_
        · intro wb1 ho_wb1
          rintro _ rfl
          exact And.intro rfl (Eff.reads (Yield.ar (v' := .bool (decide (x.t = 0))) rfl rfl rfl rfl (bool_dec (bv_zero _))) rfl)
        refine FL.run (i := 7) [6] false (fun v_ _ => v_ = .bool (decide (x.t = 0))) rfl rfl rfl (by kernel_rfl) (Stable.eq _) ?_ ?_
        · intro wb1 ho_wb1
          rintro _ rfl
          exact And.intro rfl (Eff.reads (Yield.move rfl rfl) rfl)
        by_cases hg1 : x.t = 0
        · refine FL.run (i := 8) [7] false (fun v_ _ => v_ = .int .i64 (i)) rfl rfl rfl (by kernel_rfl) (Stable.eq _) ?_ ?_
          · intro wb1 ho_wb1
            rintro _ rfl
            rw [decide_eq_true hg1]
            exact And.intro rfl (Eff.reads (Yield.move rfl rfl) rfl)
          refine FL.run (i := 9) [8, 7] false (fun v_ _ => v_ = .int .i64 (((i + 1 : Nat) : Int))) rfl rfl rfl (by kernel_rfl) (Stable.eq _) ?_ ?_
          · intro wb1 ho_wb1
            rintro _ rfl
            rintro _ rfl
            rw [decide_eq_true hg1]
            exact And.intro rfl (Eff.reads (Yield.ar (v' := .int .i64 (((i + 1 : Nat) : Int))) rfl rfl rfl rfl (int_eq (by rw [wrap_i64 (by omega) (by omega)]; omega))) rfl)
          refine FL.run (i := 10) [7] false (fun v_ _ => v_ = .pointer (some ⟨b2, 0, none⟩)) rfl rfl rfl (by kernel_rfl) (Stable.eq _) ?_ ?_
          · intro wb1 ho_wb1
            rintro _ rfl
            rw [decide_eq_true hg1]
            exact And.intro rfl (Eff.reads (Yield.fieldAt (k := 0) rfl rfl Try.runUnderlying41 rfl Try.sizeOf39 rfl) rfl)
          refine FL.run (i := 11) [10, 7] false (fun v_ _ => v_ = .slice (some ad2) ((purgeL l).length) (c_21)) rfl rfl rfl (by kernel_rfl) (Stable.eq _) ?_ ?_
          · intro wb1 ho_wb1
            rintro _ rfl
            rintro _ rfl
            rw [decide_eq_true hg1]
            have hb_b2 := ho_wb1.get hb_b2
            exact And.intro rfl (Eff.reads (Yield.load (v := .slice (some ad2) ((purgeL l).length) (c_21)) rfl rfl Try.isAgg39 (cell_get hb_b2 rfl)) rfl)
          refine FL.run (i := 12) [11, 7] false (fun v_ _ => v_ = .int .i64 ((purgeL l).length)) rfl rfl rfl (by kernel_rfl) (Stable.eq _) ?_ ?_
          · intro wb1 ho_wb1
            rintro _ rfl
            rintro _ rfl
            rw [decide_eq_true hg1]
            exact And.intro rfl (Eff.reads (Yield.lenSlice rfl rfl Try.runUnderlying39) rfl)
          refine FL.run (i := 13) [9, 12, 7] false (fun v_ _ => v_ = .bool (decide (i + 1 < (purgeL l).length))) rfl rfl rfl (by kernel_rfl) (Stable.eq _) ?_ ?_
          · intro wb1 ho_wb1
            rintro _ rfl
            rintro _ rfl
            rintro _ rfl
            rw [decide_eq_true hg1]
            exact And.intro rfl (Eff.reads (Yield.ar (v' := .bool (decide (i + 1 < (purgeL l).length))) rfl rfl rfl rfl (bool_dec (by omega))) rfl)
          refine FL.run (i := 14) [7, 13] false (fun v_ _ => v_ = .bool (decide (i + 1 < (purgeL l).length))) rfl rfl rfl (by kernel_rfl) (Stable.eq _) ?_ ?_
          · intro wb1 ho_wb1
            rintro _ rfl
            rw [decide_eq_true hg1]
            rintro _ rfl
            exact And.intro rfl (Eff.reads (Yield.pick_t rfl rfl rfl) rfl)
          refine FL.run (i := 15) [14] false (fun v_ _ => v_ = .bool (decide (i + 1 < (purgeL l).length))) rfl rfl rfl (by kernel_rfl) (Stable.eq _) ?_ ?_
          · intro wb1 ho_wb1
            rintro _ rfl
            exact And.intro rfl (Eff.reads (Yield.move rfl rfl) rfl)
          by_cases hg2 : i + 1 < (purgeL l).length
          · have hlt_y : (i + 1) < (purgeL l).length := by omega
            obtain ⟨y, hy⟩ := getD_some hlt_y
            refine FL.run (i := 16) [15] false (fun v_ _ => v_ = .pointer (some ⟨b2, 0, none⟩)) rfl rfl rfl (by kernel_rfl) (Stable.eq _) ?_ ?_
            · intro wb1 ho_wb1
              rintro _ rfl
              rw [decide_eq_true hg2]
              exact And.intro rfl (Eff.reads (Yield.fieldAt (k := 0) rfl rfl Try.runUnderlying41 rfl Try.sizeOf39 rfl) rfl)
            refine FL.run (i := 17) [16, 15] false (fun v_ _ => v_ = .slice (some ad2) ((purgeL l).length) (c_21)) rfl rfl rfl (by kernel_rfl) (Stable.eq _) ?_ ?_
            · intro wb1 ho_wb1
              rintro _ rfl
              rintro _ rfl
              rw [decide_eq_true hg2]
              have hb_b2 := ho_wb1.get hb_b2
              exact And.intro rfl (Eff.reads (Yield.load (v := .slice (some ad2) ((purgeL l).length) (c_21)) rfl rfl Try.isAgg39 (cell_get hb_b2 rfl)) rfl)
            refine FL.run (i := 18) [15] false (fun v_ _ => v_ = .int .i64 (i)) rfl rfl rfl (by kernel_rfl) (Stable.eq _) ?_ ?_
            · intro wb1 ho_wb1
              rintro _ rfl
              rw [decide_eq_true hg2]
              exact And.intro rfl (Eff.reads (Yield.move rfl rfl) rfl)
            refine FL.run (i := 19) [18, 15] false (fun v_ _ => v_ = .int .i64 (((i + 1 : Nat) : Int))) rfl rfl rfl (by kernel_rfl) (Stable.eq _) ?_ ?_
            · intro wb1 ho_wb1
              rintro _ rfl
              rintro _ rfl
              rw [decide_eq_true hg2]
              exact And.intro rfl (Eff.reads (Yield.ar (v' := .int .i64 (((i + 1 : Nat) : Int))) rfl rfl rfl rfl (int_eq (by rw [wrap_i64 (by omega) (by omega)]; omega))) rfl)
            refine FL.run (i := 20) [17, 19, 15] false (fun v_ _ => v_ = .pointer (some ((ad2).add ((i + 1) * 3)))) rfl rfl rfl (by kernel_rfl) (Stable.eq _) ?_ ?_
            · intro wb1 ho_wb1
              rintro _ rfl
              rintro _ rfl
              rintro _ rfl
              rw [decide_eq_true hg2]
              exact And.intro rfl (Eff.reads (Yield.indexNat (i + 1) rfl rfl rfl Try.runUnderlying39 Try.sizeOf51 (by omega)) rfl)
            refine FL.run (i := 21) [20, 15] false (fun v_ _ => v_ = .pointer (some (((ad2).add ((i + 1) * 3)).add 0))) rfl rfl rfl (by kernel_rfl) (Stable.eq _) ?_ ?_
            · intro wb1 ho_wb1
              rintro _ rfl
              rintro _ rfl
              rw [decide_eq_true hg2]
              exact And.intro rfl (Eff.reads (Yield.fieldAddr rfl rfl Try.runUnderlying51 rfl Try.sizeOf3) rfl)
            refine FL.run (i := 22) [21, 15] false (fun v_ _ => v_ = .int .i64 (y.f)) rfl rfl rfl (by kernel_rfl) (Stable.eq _) ?_ ?_
            · intro wb1 ho_wb1
              rintro _ rfl
              rintro _ rfl
              rw [decide_eq_true hg2]
              have hv_21 := hv_21.ext ho_wb1
              exact And.intro rfl (Eff.reads (Yield.load (v := .int .i64 (y.f)) rfl rfl Try.isAgg3 (Rd.at0 (hv_21.rd) hy rfl)) rfl)
            refine FL.run (i := 23) [15] false (fun v_ _ => v_ = .pointer (some ⟨b2, 0, none⟩)) rfl rfl rfl (by kernel_rfl) (Stable.eq _) ?_ ?_
            · intro wb1 ho_wb1
              rintro _ rfl
              rw [decide_eq_true hg2]
              exact And.intro rfl (Eff.reads (Yield.fieldAt (k := 0) rfl rfl Try.runUnderlying41 rfl Try.sizeOf39 rfl) rfl)
            refine FL.run (i := 24) [23, 15] false (fun v_ _ => v_ = .slice (some ad2) ((purgeL l).length) (c_21)) rfl rfl rfl (by kernel_rfl) (Stable.eq _) ?_ ?_
            · intro wb1 ho_wb1
              rintro _ rfl
              rintro _ rfl
              rw [decide_eq_true hg2]
              have hb_b2 := ho_wb1.get hb_b2
              exact And.intro rfl (Eff.reads (Yield.load (v := .slice (some ad2) ((purgeL l).length) (c_21)) rfl rfl Try.isAgg39 (cell_get hb_b2 rfl)) rfl)
            refine FL.run (i := 25) [15] false (fun v_ _ => v_ = .int .i64 (i)) rfl rfl rfl (by kernel_rfl) (Stable.eq _) ?_ ?_
            · intro wb1 ho_wb1
              rintro _ rfl
              rw [decide_eq_true hg2]
              exact And.intro rfl (Eff.reads (Yield.move rfl rfl) rfl)
            refine FL.run (i := 26) [24, 25, 15] false (fun v_ _ => v_ = .pointer (some ((ad2).add (i * 3)))) rfl rfl rfl (by kernel_rfl) (Stable.eq _) ?_ ?_
            · intro wb1 ho_wb1
              rintro _ rfl
              rintro _ rfl
              rintro _ rfl
              rw [decide_eq_true hg2]
              exact And.intro rfl (Eff.reads (Yield.indexNat i rfl rfl rfl Try.runUnderlying39 Try.sizeOf51 (by omega)) rfl)
            refine FL.run (i := 27) [26, 15] false (fun v_ _ => v_ = .pointer (some (((ad2).add (i * 3)).add 0))) rfl rfl rfl (by kernel_rfl) (Stable.eq _) ?_ ?_
            · intro wb1 ho_wb1
              rintro _ rfl
              rintro _ rfl
              rw [decide_eq_true hg2]
              exact And.intro rfl (Eff.reads (Yield.fieldAddr rfl rfl Try.runUnderlying51 rfl Try.sizeOf3) rfl)
            refine FL.run (i := 28) [27, 15] false (fun v_ _ => v_ = .int .i64 (x.f)) rfl rfl rfl (by kernel_rfl) (Stable.eq _) ?_ ?_
            · intro wb1 ho_wb1
              rintro _ rfl
              rintro _ rfl
              rw [decide_eq_true hg2]
              have hv_21 := hv_21.ext ho_wb1
              exact And.intro rfl (Eff.reads (Yield.load (v := .int .i64 (x.f)) rfl rfl Try.isAgg3 (Rd.at0 (hv_21.rd) hx rfl)) rfl)
            refine FL.fin rfl [15, 22, 28] ?_
            intro w9 ho_w9
            rintro _ rfl
            rw [decide_eq_true hg2]
            rintro _ rfl
            rintro _ rfl
            intro _
            show WL _ _ _ _ _ _ _ _
            replace hb_b1 := ho_w9.get hb_b1
            replace hb_b2 := ho_w9.get hb_b2
            replace hO := hO.ext ho_w9
            replace hv_21 := hv_21.ext ho_w9
            replace hE_lo1 := hE_lo1.ext ho_w9
            refine WL.yield_g rfl rfl rfl (Yield.ar (v' := .bool (decide (y.f = x.f))) rfl rfl rfl rfl (bool_dec (Iff.rfl))) ?_
            refine WL.yield rfl rfl rfl (Yield.pick_t rfl rfl rfl) ?_
            refine WL.fin ?_
            refine Nm.code ?_
            refine W.cond_dec rfl (fun hc3 => ?_) (fun hc3 => ?_)
            · exact absurd hc3 (purge_adj (good_rise hgood) hx hy hg1)
            · refine W.skipN ?_
              refine Nm.code ?_
              refine W.seq ?_
              refine W.region ?_
              refine WL.yield rfl rfl rfl (Yield.fieldAt (k := 0) rfl rfl Try.runUnderlying41 rfl Try.sizeOf39 rfl) ?_
              refine WL.yield rfl rfl rfl (Yield.load (v := .slice (some ad2) ((purgeL l).length) (c_21)) rfl rfl Try.isAgg39 (cell_get hb_b2 rfl)) ?_
              refine WL.yield rfl rfl rfl (Yield.move rfl rfl) ?_
              refine WL.yield rfl rfl rfl (Yield.indexNat i rfl rfl rfl Try.runUnderlying39 Try.sizeOf51 (by omega)) ?_
              refine WL.yield rfl rfl rfl (Yield.fieldAddr rfl rfl Try.runUnderlying51 rfl Try.sizeOf49) ?_
              refine WL.yield rfl rfl rfl (Yield.load (v := .int .u64 ((x.t.toNat : Int))) rfl rfl Try.isAgg49 (Rd.at (hv_21.rd) hx 2 _ rfl)) ?_
              refine WL.yield rfl rfl rfl (Yield.ar (v' := .bool (decide (x.t ≠ 0))) rfl rfl rfl rfl (bool_dec (not_congr (bv_zero _)))) ?_
              refine WL.fin ?_
              refine Nm.code ?_
              refine W.cond_dec rfl (fun hc4 => ?_) (fun hc4 => ?_)
              · refine W.region ?_
                refine WL.yield rfl rfl rfl (Yield.move rfl rfl) ?_
                refine WL.yield rfl rfl rfl (Yield.ar (v' := .int .i64 (((cntT ((purgeL l).take i) + 1 : Nat) : Int))) rfl rfl rfl rfl (int_eq (by have := cntT_le (purgeL l) i; rw [wrap_i64 (by omega) (by omega)]; omega))) ?_
                refine WL.yield rfl rfl rfl (Yield.assign rfl rfl) ?_
                refine WL.fin ?_
                refine Nm.block ?_
                refine Nm.code ?_
                refine W.region ?_
                refine WL.yield rfl rfl rfl (Yield.move rfl rfl) ?_
                refine WL.yield rfl rfl rfl (Yield.ar (v' := .int .i64 (((i + 1 : Nat) : Int))) rfl rfl rfl rfl (int_eq (by rw [wrap_i64 (by omega) (by omega)]; omega))) ?_
                refine WL.yield rfl rfl rfl (Yield.assign rfl rfl) ?_
                refine WL.fin ?_
                have hcs := cntT_step hx
                rw [if_pos (by first | exact hc4 | simpa using hc4)] at hcs
                refine Nm.again (i + 1) (Env.has_cons rfl (Env.has_cons rfl (Env.has_cons rfl (Env.has_cons rfl (Env.has_cons rfl (Env.has_cons (congrArg (fun q : Nat => some (Value.int .i64 (q : Int))) (by omega)) Env.has_nil)))))) ⟨by omega, hE_lo1⟩ (by omega)
              · refine W.skipN ?_
                refine Nm.block ?_
                refine Nm.code ?_
                refine W.region ?_
                refine WL.yield rfl rfl rfl (Yield.move rfl rfl) ?_
                refine WL.yield rfl rfl rfl (Yield.ar (v' := .int .i64 (((i + 1 : Nat) : Int))) rfl rfl rfl rfl (int_eq (by rw [wrap_i64 (by omega) (by omega)]; omega))) ?_
                refine WL.yield rfl rfl rfl (Yield.assign rfl rfl) ?_
                refine WL.fin ?_
                have hcs := cntT_step hx
                rw [if_neg (by first | exact hc4 | simpa using hc4)] at hcs
                refine Nm.again (i + 1) (Env.has_cons rfl (Env.has_cons rfl (Env.has_cons rfl (Env.has_cons rfl (Env.has_cons rfl (Env.has_cons (congrArg (fun q : Nat => some (Value.int .i64 (q : Int))) (by omega)) Env.has_nil)))))) ⟨by omega, hE_lo1⟩ (by omega)
          · refine FL.skip (i := 16) [15] rfl rfl rfl (by kernel_rfl) ?_ ?_
            · intro wb1 ho_wb1
              rintro _ rfl
              rw [decide_eq_false hg2]
              exact rfl
            refine FL.skip (i := 17) [16, 15] rfl rfl rfl (by kernel_rfl) ?_ ?_
            · intro wb1 ho_wb1
              rintro _ rfl
              rintro _ rfl
              rw [decide_eq_false hg2]
              exact rfl
            refine FL.skip (i := 18) [15] rfl rfl rfl (by kernel_rfl) ?_ ?_
            · intro wb1 ho_wb1
              rintro _ rfl
              rw [decide_eq_false hg2]
              exact rfl
            refine FL.skip (i := 19) [18, 15] rfl rfl rfl (by kernel_rfl) ?_ ?_
            · intro wb1 ho_wb1
              rintro _ rfl
              rintro _ rfl
              rw [decide_eq_false hg2]
              exact rfl
            refine FL.skip (i := 20) [17, 19, 15] rfl rfl rfl (by kernel_rfl) ?_ ?_
            · intro wb1 ho_wb1
              rintro _ rfl
              rintro _ rfl
              rintro _ rfl
              rw [decide_eq_false hg2]
              exact rfl
            refine FL.skip (i := 21) [20, 15] rfl rfl rfl (by kernel_rfl) ?_ ?_
            · intro wb1 ho_wb1
              rintro _ rfl
              rintro _ rfl
              rw [decide_eq_false hg2]
              exact rfl
            refine FL.skip (i := 22) [21, 15] rfl rfl rfl (by kernel_rfl) ?_ ?_
            · intro wb1 ho_wb1
              rintro _ rfl
              rintro _ rfl
              rw [decide_eq_false hg2]
              exact rfl
            refine FL.skip (i := 23) [15] rfl rfl rfl (by kernel_rfl) ?_ ?_
            · intro wb1 ho_wb1
              rintro _ rfl
              rw [decide_eq_false hg2]
              exact rfl
            refine FL.skip (i := 24) [23, 15] rfl rfl rfl (by kernel_rfl) ?_ ?_
            · intro wb1 ho_wb1
              rintro _ rfl
              rintro _ rfl
              rw [decide_eq_false hg2]
              exact rfl
            refine FL.skip (i := 25) [15] rfl rfl rfl (by kernel_rfl) ?_ ?_
            · intro wb1 ho_wb1
              rintro _ rfl
              rw [decide_eq_false hg2]
              exact rfl
            refine FL.skip (i := 26) [24, 25, 15] rfl rfl rfl (by kernel_rfl) ?_ ?_
            · intro wb1 ho_wb1
              rintro _ rfl
              rintro _ rfl
              rintro _ rfl
              rw [decide_eq_false hg2]
              exact rfl
            refine FL.skip (i := 27) [26, 15] rfl rfl rfl (by kernel_rfl) ?_ ?_
            · intro wb1 ho_wb1
              rintro _ rfl
              rintro _ rfl
              rw [decide_eq_false hg2]
              exact rfl
            refine FL.skip (i := 28) [27, 15] rfl rfl rfl (by kernel_rfl) ?_ ?_
            · intro wb1 ho_wb1
              rintro _ rfl
              rintro _ rfl
              rw [decide_eq_false hg2]
              exact rfl
            refine FL.fin rfl [15, 22, 28] ?_
            intro w10 ho_w10
            rintro _ rfl
            rw [decide_eq_false hg2]
            rintro _ rfl
            rintro _ rfl
            intro _
            show WL _ _ _ _ _ _ _ _
            replace hb_b1 := ho_w10.get hb_b1
            replace hb_b2 := ho_w10.get hb_b2
            replace hO := hO.ext ho_w10
            replace hv_21 := hv_21.ext ho_w10
            replace hE_lo1 := hE_lo1.ext ho_w10
            refine WL.skip_g rfl rfl rfl ?_
            refine WL.yield rfl rfl rfl (Yield.pick_f rfl rfl rfl) ?_
            refine WL.fin ?_
            refine Nm.code ?_
            refine W.cond_false rfl ?_
            refine W.skipN ?_
            refine Nm.code ?_
            refine W.seq ?_
            refine W.region ?_
            refine WL.yield rfl rfl rfl (Yield.fieldAt (k := 0) rfl rfl Try.runUnderlying41 rfl Try.sizeOf39 rfl) ?_
            refine WL.yield rfl rfl rfl (Yield.load (v := .slice (some ad2) ((purgeL l).length) (c_21)) rfl rfl Try.isAgg39 (cell_get hb_b2 rfl)) ?_
            refine WL.yield rfl rfl rfl (Yield.move rfl rfl) ?_
            refine WL.yield rfl rfl rfl (Yield.indexNat i rfl rfl rfl Try.runUnderlying39 Try.sizeOf51 (by omega)) ?_
            refine WL.yield rfl rfl rfl (Yield.fieldAddr rfl rfl Try.runUnderlying51 rfl Try.sizeOf49) ?_
            refine WL.yield rfl rfl rfl (Yield.load (v := .int .u64 ((x.t.toNat : Int))) rfl rfl Try.isAgg49 (Rd.at (hv_21.rd) hx 2 _ rfl)) ?_
            refine WL.yield rfl rfl rfl (Yield.ar (v' := .bool (decide (x.t ≠ 0))) rfl rfl rfl rfl (bool_dec (not_congr (bv_zero _)))) ?_
            refine WL.fin ?_
            refine Nm.code ?_
            refine W.cond_dec rfl (fun hc4 => ?_) (fun hc4 => ?_)
            · refine W.region ?_
              refine WL.yield rfl rfl rfl (Yield.move rfl rfl) ?_
              refine WL.yield rfl rfl rfl (Yield.ar (v' := .int .i64 (((cntT ((purgeL l).take i) + 1 : Nat) : Int))) rfl rfl rfl rfl (int_eq (by have := cntT_le (purgeL l) i; rw [wrap_i64 (by omega) (by omega)]; omega))) ?_
              refine WL.yield rfl rfl rfl (Yield.assign rfl rfl) ?_
              refine WL.fin ?_
              refine Nm.block ?_
              refine Nm.code ?_
              refine W.region ?_
              refine WL.yield rfl rfl rfl (Yield.move rfl rfl) ?_
              refine WL.yield rfl rfl rfl (Yield.ar (v' := .int .i64 (((i + 1 : Nat) : Int))) rfl rfl rfl rfl (int_eq (by rw [wrap_i64 (by omega) (by omega)]; omega))) ?_
              refine WL.yield rfl rfl rfl (Yield.assign rfl rfl) ?_
              refine WL.fin ?_
              have hcs := cntT_step hx
              rw [if_pos (by first | exact hc4 | simpa using hc4)] at hcs
              refine Nm.again (i + 1) (Env.has_cons rfl (Env.has_cons rfl (Env.has_cons rfl (Env.has_cons rfl (Env.has_cons rfl (Env.has_cons (congrArg (fun q : Nat => some (Value.int .i64 (q : Int))) (by omega)) Env.has_nil)))))) ⟨by omega, hE_lo1⟩ (by omega)
            · refine W.skipN ?_
              refine Nm.block ?_
              refine Nm.code ?_
              refine W.region ?_
              refine WL.yield rfl rfl rfl (Yield.move rfl rfl) ?_
              refine WL.yield rfl rfl rfl (Yield.ar (v' := .int .i64 (((i + 1 : Nat) : Int))) rfl rfl rfl rfl (int_eq (by rw [wrap_i64 (by omega) (by omega)]; omega))) ?_
              refine WL.yield rfl rfl rfl (Yield.assign rfl rfl) ?_
              refine WL.fin ?_
              have hcs := cntT_step hx
              rw [if_neg (by first | exact hc4 | simpa using hc4)] at hcs
              refine Nm.again (i + 1) (Env.has_cons rfl (Env.has_cons rfl (Env.has_cons rfl (Env.has_cons rfl (Env.has_cons rfl (Env.has_cons (congrArg (fun q : Nat => some (Value.int .i64 (q : Int))) (by omega)) Env.has_nil)))))) ⟨by omega, hE_lo1⟩ (by omega)
        · refine FL.skip (i := 8) [7] rfl rfl rfl (by kernel_rfl) ?_ ?_
          · intro wb1 ho_wb1
            rintro _ rfl
            rw [decide_eq_false hg1]
            exact rfl
          refine FL.skip (i := 9) [8, 7] rfl rfl rfl (by kernel_rfl) ?_ ?_
          · intro wb1 ho_wb1
            rintro _ rfl
            rintro _ rfl
            rw [decide_eq_false hg1]
            exact rfl
          refine FL.skip (i := 10) [7] rfl rfl rfl (by kernel_rfl) ?_ ?_
          · intro wb1 ho_wb1
            rintro _ rfl
            rw [decide_eq_false hg1]
            exact rfl
          refine FL.skip (i := 11) [10, 7] rfl rfl rfl (by kernel_rfl) ?_ ?_
          · intro wb1 ho_wb1
            rintro _ rfl
            rintro _ rfl
            rw [decide_eq_false hg1]
            exact rfl
          refine FL.skip (i := 12) [11, 7] rfl rfl rfl (by kernel_rfl) ?_ ?_
          · intro wb1 ho_wb1
            rintro _ rfl
            rintro _ rfl
            rw [decide_eq_false hg1]
            exact rfl
          refine FL.skip (i := 13) [9, 12, 7] rfl rfl rfl (by kernel_rfl) ?_ ?_
          · intro wb1 ho_wb1
            rintro _ rfl
            rintro _ rfl
            rintro _ rfl
            rw [decide_eq_false hg1]
            exact rfl
          refine FL.run (i := 14) [7, 13] false (fun v_ _ => v_ = .bool false) rfl rfl rfl (by kernel_rfl) (Stable.eq _) ?_ ?_
          · intro wb1 ho_wb1
            rintro _ rfl
            rw [decide_eq_false hg1]
            rintro _ rfl
            exact And.intro rfl (Eff.reads (Yield.pick_f rfl rfl rfl) rfl)
          refine FL.run (i := 15) [14] false (fun v_ _ => v_ = .bool false) rfl rfl rfl (by kernel_rfl) (Stable.eq _) ?_ ?_
          · intro wb1 ho_wb1
            rintro _ rfl
            exact And.intro rfl (Eff.reads (Yield.move rfl rfl) rfl)
          refine FL.skip (i := 16) [15] rfl rfl rfl (by kernel_rfl) ?_ ?_
          · intro wb1 ho_wb1
            rintro _ rfl
            exact rfl
          refine FL.skip (i := 17) [16, 15] rfl rfl rfl (by kernel_rfl) ?_ ?_
          · intro wb1 ho_wb1
            rintro _ rfl
            rintro _ rfl
            exact rfl
          refine FL.skip (i := 18) [15] rfl rfl rfl (by kernel_rfl) ?_ ?_
          · intro wb1 ho_wb1
            rintro _ rfl
            exact rfl
          refine FL.skip (i := 19) [18, 15] rfl rfl rfl (by kernel_rfl) ?_ ?_
          · intro wb1 ho_wb1
            rintro _ rfl
            rintro _ rfl
            exact rfl
          refine FL.skip (i := 20) [17, 19, 15] rfl rfl rfl (by kernel_rfl) ?_ ?_
          · intro wb1 ho_wb1
            rintro _ rfl
            rintro _ rfl
            rintro _ rfl
            exact rfl
          refine FL.skip (i := 21) [20, 15] rfl rfl rfl (by kernel_rfl) ?_ ?_
          · intro wb1 ho_wb1
            rintro _ rfl
            rintro _ rfl
            exact rfl
          refine FL.skip (i := 22) [21, 15] rfl rfl rfl (by kernel_rfl) ?_ ?_
          · intro wb1 ho_wb1
            rintro _ rfl
            rintro _ rfl
            exact rfl
          refine FL.skip (i := 23) [15] rfl rfl rfl (by kernel_rfl) ?_ ?_
          · intro wb1 ho_wb1
            rintro _ rfl
            exact rfl
          refine FL.skip (i := 24) [23, 15] rfl rfl rfl (by kernel_rfl) ?_ ?_
          · intro wb1 ho_wb1
            rintro _ rfl
            rintro _ rfl
            exact rfl
          refine FL.skip (i := 25) [15] rfl rfl rfl (by kernel_rfl) ?_ ?_
          · intro wb1 ho_wb1
            rintro _ rfl
            exact rfl
          refine FL.skip (i := 26) [24, 25, 15] rfl rfl rfl (by kernel_rfl) ?_ ?_
          · intro wb1 ho_wb1
            rintro _ rfl
            rintro _ rfl
            rintro _ rfl
            exact rfl
          refine FL.skip (i := 27) [26, 15] rfl rfl rfl (by kernel_rfl) ?_ ?_
          · intro wb1 ho_wb1
            rintro _ rfl
            rintro _ rfl
            exact rfl
          refine FL.skip (i := 28) [27, 15] rfl rfl rfl (by kernel_rfl) ?_ ?_
          · intro wb1 ho_wb1
            rintro _ rfl
            rintro _ rfl
            exact rfl
          refine FL.fin rfl [15, 22, 28] ?_
          intro w11 ho_w11
          rintro _ rfl
          rintro _ rfl
          rintro _ rfl
          intro _
          show WL _ _ _ _ _ _ _ _
          replace hb_b1 := ho_w11.get hb_b1
          replace hb_b2 := ho_w11.get hb_b2
          replace hO := hO.ext ho_w11
          replace hv_21 := hv_21.ext ho_w11
          replace hE_lo1 := hE_lo1.ext ho_w11
          refine WL.skip_g rfl rfl rfl ?_
          refine WL.yield rfl rfl rfl (Yield.pick_f rfl rfl rfl) ?_
          refine WL.fin ?_
          refine Nm.code ?_
          refine W.cond_false rfl ?_
          refine W.skipN ?_
          refine Nm.code ?_
          refine W.seq ?_
          refine W.region ?_
          refine WL.yield rfl rfl rfl (Yield.fieldAt (k := 0) rfl rfl Try.runUnderlying41 rfl Try.sizeOf39 rfl) ?_
          refine WL.yield rfl rfl rfl (Yield.load (v := .slice (some ad2) ((purgeL l).length) (c_21)) rfl rfl Try.isAgg39 (cell_get hb_b2 rfl)) ?_
          refine WL.yield rfl rfl rfl (Yield.move rfl rfl) ?_
          refine WL.yield rfl rfl rfl (Yield.indexNat i rfl rfl rfl Try.runUnderlying39 Try.sizeOf51 (by omega)) ?_
          refine WL.yield rfl rfl rfl (Yield.fieldAddr rfl rfl Try.runUnderlying51 rfl Try.sizeOf49) ?_
          refine WL.yield rfl rfl rfl (Yield.load (v := .int .u64 ((x.t.toNat : Int))) rfl rfl Try.isAgg49 (Rd.at (hv_21.rd) hx 2 _ rfl)) ?_
          refine WL.yield rfl rfl rfl (Yield.ar (v' := .bool (decide (x.t ≠ 0))) rfl rfl rfl rfl (bool_dec (not_congr (bv_zero _)))) ?_
          refine WL.fin ?_
          refine Nm.code ?_
          refine W.cond_dec rfl (fun hc4 => ?_) (fun hc4 => ?_)
          · refine W.region ?_
            refine WL.yield rfl rfl rfl (Yield.move rfl rfl) ?_
            refine WL.yield rfl rfl rfl (Yield.ar (v' := .int .i64 (((cntT ((purgeL l).take i) + 1 : Nat) : Int))) rfl rfl rfl rfl (int_eq (by have := cntT_le (purgeL l) i; rw [wrap_i64 (by omega) (by omega)]; omega))) ?_
            refine WL.yield rfl rfl rfl (Yield.assign rfl rfl) ?_
            refine WL.fin ?_
            refine Nm.block ?_
            refine Nm.code ?_
            refine W.region ?_
            refine WL.yield rfl rfl rfl (Yield.move rfl rfl) ?_
            refine WL.yield rfl rfl rfl (Yield.ar (v' := .int .i64 (((i + 1 : Nat) : Int))) rfl rfl rfl rfl (int_eq (by rw [wrap_i64 (by omega) (by omega)]; omega))) ?_
            refine WL.yield rfl rfl rfl (Yield.assign rfl rfl) ?_
            refine WL.fin ?_
            have hcs := cntT_step hx
            rw [if_pos (by first | exact hc4 | simpa using hc4)] at hcs
            refine Nm.again (i + 1) (Env.has_cons rfl (Env.has_cons rfl (Env.has_cons rfl (Env.has_cons rfl (Env.has_cons rfl (Env.has_cons (congrArg (fun q : Nat => some (Value.int .i64 (q : Int))) (by omega)) Env.has_nil)))))) ⟨by omega, hE_lo1⟩ (by omega)
          · refine W.skipN ?_
            refine Nm.block ?_
            refine Nm.code ?_
            refine W.region ?_
            refine WL.yield rfl rfl rfl (Yield.move rfl rfl) ?_
            refine WL.yield rfl rfl rfl (Yield.ar (v' := .int .i64 (((i + 1 : Nat) : Int))) rfl rfl rfl rfl (int_eq (by rw [wrap_i64 (by omega) (by omega)]; omega))) ?_
            refine WL.yield rfl rfl rfl (Yield.assign rfl rfl) ?_
            refine WL.fin ?_
            have hcs := cntT_step hx
            rw [if_neg (by first | exact hc4 | simpa using hc4)] at hcs
            refine Nm.again (i + 1) (Env.has_cons rfl (Env.has_cons rfl (Env.has_cons rfl (Env.has_cons rfl (Env.has_cons rfl (Env.has_cons (congrArg (fun q : Nat => some (Value.int .i64 (q : Int))) (by omega)) Env.has_nil)))))) ⟨by omega, hE_lo1⟩ (by omega)
      · refine W.exitX ?_
        refine Ex.thenX ?_
        refine Ex.thenX ?_
        refine Ex.hit ?_
        refine Nm.code ?_
        refine W.seq ?_
        refine W.seq ?_
        refine W.region ?_
        refine WL.yield rfl rfl rfl (Yield.assign rfl rfl) ?_
        refine WL.fin ?_
        refine Nm.code ?_
        refine W.block ?_
        have hz_w8 := hO.size
        have hlt_b1_w8 : b1 < w8.heap.size := blk_lt hb_b1
        have hlt_b2_w8 : b2 < w8.heap.size := blk_lt hb_b2
        refine W.loop (σ := Nat) (fun j => [(0, .slice (A) (l.length) (c)), (9, .bool false), (19, .bool (!(good l))), (4, .pointer (some ⟨b2, 0, none⟩)), (26, .bool (decide ((i : Int) < ((purgeL l).length)))), (7, .int .i64 (j)), (5, .int .i64 ((cntT (purgeL l) : Int) - (cntT (l.take j) : Int)))]) (fun j ww => ((j ≤ l.length) ∧ Ext w8 ww)) (fun j => (l.length - j)) 0 (Env.has_cons rfl (Env.has_cons rfl (Env.has_cons rfl (Env.has_cons rfl (Env.has_cons rfl (Env.has_cons rfl (Env.has_cons (congrArg (fun q : Int => some (Value.int .i64 q)) (by rw [List.take_of_length_le (by omega)]; simp [cntT])) Env.has_nil))))))) ⟨Nat.zero_le _, Ext.refl _⟩ ?_
        rintro j w12 ⟨hp, hE_lo2⟩
        have hb_b1_lo2 := hb_b1
        replace hb_b1 := Ext.get hE_lo2 hb_b1_lo2
        have hb_b2_lo2 := hb_b2
        replace hb_b2 := Ext.get hE_lo2 hb_b2_lo2
        have hO_lo2 := hO
        replace hO := hO_lo2.ext hE_lo2
        have hv_21_lo2 := hv_21
        replace hv_21 := hv_21_lo2.ext hE_lo2
        refine W.seq ?_
        refine W.seq ?_
        refine W.region ?_
        refine WL.yield rfl rfl rfl (Yield.move rfl rfl) ?_
        refine WL.yield rfl rfl rfl (Yield.move rfl rfl) ?_
        refine WL.yield rfl rfl rfl (Yield.lenSlice rfl rfl Try.runUnderlying39) ?_
        refine WL.yield rfl rfl rfl (Yield.bin rfl rfl rfl rfl) ?_
        refine WL.fin ?_
        refine Nm.code ?_
        refine W.cond_dec rfl (fun hi2 => ?_) (fun hi2 => ?_)
        · have hlt_x : j < l.length := by omega
          obtain ⟨ad, rfl⟩ := hr.addr hlt_x
          obtain ⟨x, hx⟩ := getD_some hlt_x
          refine W.skipN ?_
          refine Nm.code ?_
          refine W.seq ?_
          refine W.block ?_
          refine W.seq ?_
          refine W.region ?_
          refine WL.yield rfl rfl rfl (Yield.move rfl rfl) ?_
          refine WL.yield rfl rfl rfl (Yield.move rfl rfl) ?_
          refine WL.yield rfl rfl rfl (Yield.indexNat j rfl rfl rfl Try.runUnderlying39 Try.sizeOf51 (by omega)) ?_
          refine WL.yield rfl rfl rfl (Yield.fieldAddr rfl rfl Try.runUnderlying51 rfl Try.sizeOf49) ?_
          refine WL.yield rfl rfl rfl (Yield.load (v := .int .u64 ((x.t.toNat : Int))) rfl rfl Try.isAgg49 (Rd.at (Rd.ext hr hO) hx 2 _ rfl)) ?_
          refine WL.yield rfl rfl rfl (Yield.ar (v' := .bool (decide (x.t ≠ 0))) rfl rfl rfl rfl (bool_dec (not_congr (bv_zero _)))) ?_
          refine WL.fin ?_
          refine Nm.code ?_
          refine W.cond_dec rfl (fun hc6 => ?_) (fun hc6 => ?_)
          · refine W.region ?_
            refine WL.yield rfl rfl rfl (Yield.move rfl rfl) ?_
            refine WL.yield rfl rfl rfl (Yield.ar (v' := .int .i64 ((cntT (purgeL l) : Int) - (cntT (l.take j) : Int) - 1)) rfl rfl rfl rfl (int_eq (by have := cntT_le l j; have := cntT_len (purgeL l); rw [wrap_i64 (by omega) (by omega)]))) ?_
            refine WL.yield rfl rfl rfl (Yield.assign rfl rfl) ?_
            refine WL.fin ?_
            refine Nm.block ?_
            refine Nm.code ?_
            refine W.region ?_
            refine WL.yield rfl rfl rfl (Yield.move rfl rfl) ?_
            refine WL.yield rfl rfl rfl (Yield.ar (v' := .int .i64 (((j + 1 : Nat) : Int))) rfl rfl rfl rfl (int_eq (by rw [wrap_i64 (by omega) (by omega)]; omega))) ?_
            refine WL.yield rfl rfl rfl (Yield.assign rfl rfl) ?_
            refine WL.fin ?_
            have hcs := cntT_step hx
            rw [if_pos (by first | exact hc6 | simpa using hc6)] at hcs
            refine Nm.again (j + 1) (Env.has_cons rfl (Env.has_cons rfl (Env.has_cons rfl (Env.has_cons rfl (Env.has_cons rfl (Env.has_cons rfl (Env.has_cons (congrArg (fun q : Int => some (Value.int .i64 q)) (by omega)) Env.has_nil))))))) ⟨by omega, hE_lo2⟩ (by omega)
          · refine W.skipN ?_
            refine Nm.block ?_
            refine Nm.code ?_
            refine W.region ?_
            refine WL.yield rfl rfl rfl (Yield.move rfl rfl) ?_
            refine WL.yield rfl rfl rfl (Yield.ar (v' := .int .i64 (((j + 1 : Nat) : Int))) rfl rfl rfl rfl (int_eq (by rw [wrap_i64 (by omega) (by omega)]; omega))) ?_
            refine WL.yield rfl rfl rfl (Yield.assign rfl rfl) ?_
            refine WL.fin ?_
            have hcs := cntT_step hx
            rw [if_neg (by first | exact hc6 | simpa using hc6)] at hcs
            refine Nm.again (j + 1) (Env.has_cons rfl (Env.has_cons rfl (Env.has_cons rfl (Env.has_cons rfl (Env.has_cons rfl (Env.has_cons rfl (Env.has_cons (congrArg (fun q : Int => some (Value.int .i64 q)) (by omega)) Env.has_nil))))))) ⟨by omega, hE_lo2⟩ (by omega)
        · refine W.exitX ?_
          refine Ex.thenX ?_
          refine Ex.thenX ?_
          refine Ex.hit ?_
          refine Nm.code ?_
          refine W.seq ?_
          refine W.region ?_
          refine WL.yield rfl rfl rfl (Yield.move rfl rfl) ?_
          refine WL.yield rfl rfl rfl (Yield.ar rfl rfl rfl rfl (bool_true (by have h2 := purge_cnt l; have h3 : l.take j = l := List.take_of_length_le (by omega); rw [h3]; omega))) ?_
          refine WL.yield rfl rfl rfl (Yield.move rfl rfl) ?_
          refine WL.yield_g rfl rfl rfl (Yield.loadAgg (cs := [.slice (A_21) ((purgeL l).length) (c_21)]) rfl rfl Try.isAgg41 Try.sizeOf41 (blk_cells hb_b2 rfl)) ?_
          refine WL.eff _ rfl rfl (Eff.fn rfl rfl Try.call21 (by rintro _ rfl; exact good_any _ _ _ _ (hv_21.rd) (Nat.le_trans (purge_len l) hlen))) ?_
          have hlt_b1_w12 : b1 < w12.heap.size := blk_lt hb_b1
          have hlt_b2_w12 : b2 < w12.heap.size := blk_lt hb_b2
          have hz_w12 := hO.size
          rintro _ w13 ⟨ho_w13, rfl⟩
          replace hb_b1 := ho_w13.get hb_b1
          replace hb_b2 := ho_w13.get hb_b2
          replace hO := hO.ext ho_w13
          replace hv_21 := hv_21.ext ho_w13
          refine WL.yield rfl rfl rfl (Yield.pick_t rfl rfl rfl) ?_
          refine WL.yield rfl rfl rfl (Yield.assign rfl rfl) ?_
          refine WL.fin ?_
          refine Nm.code ?_
          refine W.ret_post (fun _ _ h => h) Try.results6 rfl ?_
          exact ⟨hO, bool_eq (by first | rfl | exact purge_good hgood)⟩

end Go.Proofs.Ytpnoddfjklcahaa
