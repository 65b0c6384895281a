import Derived.Test.YtpnoddfjklcahaaTr8
import Derived.Test.YtpnoddfjklcahaaDa5

set_option linter.all false
namespace Go.Proofs.Ytpnoddfjklcahaa
open Go Go.Lv Go.RowKit Go.Shoal


theorem joins_law (w : World) (A : Option Addr) (c : Nat) (l : List En) (hr : Rd encEn w A l) (A2 : Option Addr) (c2 : Nat) (l2 : List En) (hr2 : Rd encEn w A2 l2) :
    Fc Try.prog 5 #[.slice (A) (l.length) (c), .slice (A2) (l2.length) (c2)] w (fun v w' => Ext w w' ∧ v = .bool true) := by
  refine Fc.enter (args := [.slice (A) (l.length) (c), .slice (A2) (l2.length) (c2)]) Try.func5 rfl Try.ntmps5 rfl ?_
  intro K_
  have hO : Only (fun _ => False) w w := Only.refl _ _
  refine W.seq ?_
  refine W.region ?_
  refine WL.yield rfl rfl rfl (Yield.assign rfl rfl) ?_
  refine WL.fin ?_
  refine Nm.code ?_
  refine W.seq ?_
  refine W.seq ?_
  refine W.region ?_
  refine WL.eff _ rfl rfl (Eff.fn rfl rfl Try.call20 (by rintro _ rfl; exact awake18 _)) ?_
  have hz_w := hO.size
  rintro _ w1 ⟨ho_w1, rfl⟩
  replace hO := hO.ext ho_w1
  refine WL.yield rfl rfl rfl (Yield.not rfl rfl) ?_
  refine WL.fin ?_
  refine Nm.code ?_
  refine W.cond_false rfl ?_
  refine W.skipN ?_
  refine Nm.code ?_
  refine W.seq ?_
  refine W.region ?_
  refine WL.yield rfl rfl rfl (Yield.move rfl rfl) ?_
  refine WL.yield rfl rfl rfl (Yield.build (cells := #[.slice (A) (l.length) (c)]) rfl rfl (by kernel_rfl)) ?_
  refine WL.yield rfl rfl rfl (Yield.move rfl rfl) ?_
  refine WL.yield rfl rfl rfl (Yield.build (cells := #[.slice (A2) (l2.length) (c2)]) rfl rfl (by kernel_rfl)) ?_
  refine WL.eff _ rfl rfl (Eff.alloc rfl Try.zeroValue41) ?_
  rintro _ w2 ⟨_, b1, rfl, hs_b1, rfl, he_w2⟩
  have hb_b1 : w2.heap[b1]? = some (.cells #[.slice (none) (0) (0)] 41 (0, 0)) := by rw [he_w2, hs_b1]; exact new_get _ _
  have ho_w2 : Ext w1 w2 := by rw [he_w2]; exact Ext.alloc _ _
  clear he_w2
  have hn_b1 : w.heap.size ≤ b1 := by rw [hs_b1]; exact hO.size
  replace hO := hO.ext ho_w2
  refine WL.eff _ rfl rfl (Eff.alloc rfl Try.zeroValue41) ?_
  rintro _ w3 ⟨_, b2, rfl, hs_b2, rfl, he_w3⟩
  have hb_b2 : w3.heap[b2]? = some (.cells #[.slice (none) (0) (0)] 41 (0, 0)) := by rw [he_w3, hs_b2]; exact new_get _ _
  have ho_w3 : Ext w2 w3 := by rw [he_w3]; exact Ext.alloc _ _
  clear he_w3
  have hn_b2 : w.heap.size ≤ b2 := by rw [hs_b2]; exact hO.size
  have hq_b1_b2 : b1 < b2 := by rw [hs_b2]; exact blk_lt hb_b1
  replace hb_b1 := ho_w3.get hb_b1
  replace hO := hO.ext ho_w3
  refine WL.eff _ rfl rfl (Eff.storeBlk (vs := [.slice (A) (l.length) (c)]) (cs := [.slice (none) (0) (0)]) (cs' := [.slice (A) (l.length) (c)]) rfl rfl rfl Try.sizeOf41 rfl (List.forall_mem_cons.2 ⟨rfl, (fun _ h => nomatch h)⟩) hb_b1 rfl rfl) ?_
  rintro _ w4 ⟨ho_w4, hb_new⟩
  replace hb_b1 := hb_new
  replace hb_b2 := ho_w4.get hb_b2 (by omega)
  replace hO := hO.trans ho_w4 (by intro i hi1 hi2; first | exact hi2 | (exfalso; omega) | (left; exact hi2) | (right; exact hi2) | (right; left; exact hi2))
  refine WL.eff _ rfl rfl (Eff.storeBlk (vs := [.slice (A2) (l2.length) (c2)]) (cs := [.slice (none) (0) (0)]) (cs' := [.slice (A2) (l2.length) (c2)]) rfl rfl rfl Try.sizeOf41 rfl (List.forall_mem_cons.2 ⟨rfl, (fun _ h => nomatch h)⟩) hb_b2 rfl rfl) ?_
  rintro _ w5 ⟨ho_w5, hb_new⟩
  replace hb_b1 := ho_w5.get hb_b1 (by omega)
  replace hb_b2 := hb_new
  replace hO := hO.trans ho_w5 (by intro i hi1 hi2; first | exact hi2 | (exfalso; omega) | (left; exact hi2) | (right; exact hi2) | (right; left; exact hi2))
  refine WL.fin ?_
  refine Nm.code ?_
  refine W.seq ?_
  refine W.seq ?_
  refine W.region ?_
  refine WL.yield rfl rfl rfl (Yield.move rfl rfl) ?_
  refine WL.yield rfl rfl rfl (Yield.lenSlice rfl rfl Try.runUnderlying39) ?_
  refine WL.yield rfl rfl rfl (Yield.ar (v' := .bool (decide (l.length > 40))) rfl rfl rfl rfl (bool_dec (by omega))) ?_
  refine WL.yield rfl rfl rfl (Yield.move rfl rfl) ?_
  by_cases hga : l.length > 40
  · rw [decide_eq_true hga]
    refine WL.skip_g rfl rfl rfl ?_
    refine WL.skip_g rfl rfl rfl ?_
    refine WL.skip_g rfl rfl rfl ?_
    refine WL.yield rfl rfl rfl (Yield.pick_t rfl rfl rfl) ?_
    refine WL.yield rfl rfl rfl (Yield.move rfl rfl) ?_
    refine WL.skip_g rfl rfl rfl ?_
    refine WL.skip_g rfl rfl rfl ?_
    refine WL.skip_g rfl rfl rfl ?_
    refine WL.yield rfl rfl rfl (Yield.pick_t rfl rfl rfl) ?_
    refine WL.yield rfl rfl rfl (Yield.move rfl rfl) ?_
    refine WL.skip_g rfl rfl rfl ?_
    refine WL.skip_g rfl rfl rfl ?_
    refine WL.skip_g rfl rfl rfl ?_
    refine WL.yield rfl rfl rfl (Yield.pick_t rfl rfl rfl) ?_
    refine WL.fin ?_
    refine Nm.code ?_
    refine W.cond_true rfl ?_
    refine W.seq ?_
    refine W.region ?_
    refine WL.yield rfl rfl rfl (Yield.assign rfl rfl) ?_
    refine WL.fin ?_
    refine Nm.code ?_
    refine W.ret_post (fun _ _ h => h) Try.results5 rfl ?_
    exact ⟨hO, rfl⟩
  · rw [decide_eq_false hga]
    refine WL.yield_g rfl rfl rfl (Yield.move rfl rfl) ?_
    refine WL.yield_g rfl rfl rfl (Yield.lenSlice rfl rfl Try.runUnderlying39) ?_
    refine WL.yield_g rfl rfl rfl (Yield.ar (v' := .bool (decide (l2.length > 40))) rfl rfl rfl rfl (bool_dec (by omega))) ?_
    refine WL.yield rfl rfl rfl (Yield.pick_f rfl rfl rfl) ?_
    refine WL.yield rfl rfl rfl (Yield.move rfl rfl) ?_
    by_cases hgb : l2.length > 40
    · rw [decide_eq_true hgb]
      refine WL.skip_g rfl rfl rfl ?_
      refine WL.skip_g rfl rfl rfl ?_
      refine WL.skip_g rfl rfl rfl ?_
      refine WL.yield rfl rfl rfl (Yield.pick_t rfl rfl rfl) ?_
      refine WL.yield rfl rfl rfl (Yield.move rfl rfl) ?_
      refine WL.skip_g rfl rfl rfl ?_
      refine WL.skip_g rfl rfl rfl ?_
      refine WL.skip_g rfl rfl rfl ?_
      refine WL.yield rfl rfl rfl (Yield.pick_t rfl rfl rfl) ?_
      refine WL.fin ?_
      refine Nm.code ?_
      refine W.cond_true rfl ?_
      refine W.seq ?_
      refine W.region ?_
      refine WL.yield rfl rfl rfl (Yield.assign rfl rfl) ?_
      refine WL.fin ?_
      refine Nm.code ?_
      refine W.ret_post (fun _ _ h => h) Try.results5 rfl ?_
      exact ⟨hO, rfl⟩
    · rw [decide_eq_false hgb]
      refine WL.yield_g rfl rfl rfl (Yield.loadAgg (cs := [.slice (A) (l.length) (c)]) rfl rfl Try.isAgg41 Try.sizeOf41 (blk_cells hb_b1 rfl)) ?_
      refine WL.eff _ rfl rfl (Eff.fn rfl rfl Try.call21 (by rintro _ rfl; exact good_any _ _ _ _ (hr.ext hO) (by omega))) ?_
      have hlt_b1_w5 : b1 < w5.heap.size := blk_lt hb_b1
      have hlt_b2_w5 : b2 < w5.heap.size := blk_lt hb_b2
      have hz_w5 := hO.size
      rintro _ w6 ⟨ho_w6, rfl⟩
      replace hb_b1 := ho_w6.get hb_b1
      replace hb_b2 := ho_w6.get hb_b2
      replace hO := hO.ext ho_w6
      refine WL.yield_g rfl rfl rfl (Yield.not rfl rfl) ?_
      refine WL.yield rfl rfl rfl (Yield.pick_f rfl rfl rfl) ?_
      refine WL.yield rfl rfl rfl (Yield.move rfl rfl) ?_
      rcases Bool.eq_false_or_eq_true (!(good l)) with hgg | hgg
      · rw [hgg]
        refine WL.skip_g rfl rfl rfl ?_
        refine WL.skip_g rfl rfl rfl ?_
        refine WL.skip_g rfl rfl rfl ?_
        refine WL.yield rfl rfl rfl (Yield.pick_t rfl rfl rfl) ?_
        refine WL.fin ?_
        refine Nm.code ?_
        refine W.cond_true rfl ?_
        refine W.seq ?_
        refine W.region ?_
        refine WL.yield rfl rfl rfl (Yield.assign rfl rfl) ?_
        refine WL.fin ?_
        refine Nm.code ?_
        refine W.ret_post (fun _ _ h => h) Try.results5 rfl ?_
        exact ⟨hO, rfl⟩
      · rw [hgg]
        have hgood : good l = true := by simpa using hgg
        refine WL.yield_g rfl rfl rfl (Yield.loadAgg (cs := [.slice (A2) (l2.length) (c2)]) rfl rfl Try.isAgg41 Try.sizeOf41 (blk_cells hb_b2 rfl)) ?_
        refine WL.eff _ rfl rfl (Eff.fn rfl rfl Try.call21 (by rintro _ rfl; exact good_any _ _ _ _ (hr2.ext hO) (by omega))) ?_
        have hlt_b1_w6 : b1 < w6.heap.size := blk_lt hb_b1
        have hlt_b2_w6 : b2 < w6.heap.size := blk_lt hb_b2
        have hz_w6 := hO.size
        rintro _ w7 ⟨ho_w7, rfl⟩
        replace hb_b1 := ho_w7.get hb_b1
        replace hb_b2 := ho_w7.get hb_b2
        replace hO := hO.ext ho_w7
        refine WL.yield_g rfl rfl rfl (Yield.not rfl rfl) ?_
        refine WL.yield rfl rfl rfl (Yield.pick_f rfl rfl rfl) ?_
        refine WL.fin ?_
        refine Nm.code ?_
        refine W.cond rfl (fun hc1 => ?_) (fun hc1 => ?_)
        · refine W.seq ?_
          refine W.region ?_
          refine WL.yield rfl rfl rfl (Yield.assign rfl rfl) ?_
          refine WL.fin ?_
          refine Nm.code ?_
          refine W.ret_post (fun _ _ h => h) Try.results5 rfl ?_
          exact ⟨hO, rfl⟩
        · have hgood2 : good l2 = true := by simpa using hc1
          refine W.skipN ?_
          refine Nm.code ?_
          refine W.seq ?_
          refine W.region ?_
          refine WL.yield rfl rfl rfl (Yield.loadAgg (cs := [.slice (A) (l.length) (c)]) rfl rfl Try.isAgg41 Try.sizeOf41 (blk_cells hb_b1 rfl)) ?_
          refine WL.eff _ rfl rfl (Eff.fn rfl rfl Try.call22 (by rintro _ rfl; exact Fc.mono (purge_any _ _ _ _ (hr.ext hO) (by omega)) (fun v w' h => by rw [purgeT_good hgood] at h; exact h))) ?_
          have hlt_b1_w7 : b1 < w7.heap.size := blk_lt hb_b1
          have hlt_b2_w7 : b2 < w7.heap.size := blk_lt hb_b2
          have hz_w7 := hO.size
          rintro _ w8 ⟨ho_w8, ⟨A_33, c_33, rfl, hc_33, hv_33⟩⟩
          replace hb_b1 := ho_w8.get hb_b1
          replace hb_b2 := ho_w8.get hb_b2
          replace hO := hO.ext ho_w8
          refine WL.eff _ rfl rfl (Eff.alloc rfl Try.zeroValue41) ?_
          rintro _ w9 ⟨_, b3, rfl, hs_b3, rfl, he_w9⟩
          have hb_b3 : w9.heap[b3]? = some (.cells #[.slice (none) (0) (0)] 41 (0, 0)) := by rw [he_w9, hs_b3]; exact new_get _ _
          have ho_w9 : Ext w8 w9 := by rw [he_w9]; exact Ext.alloc _ _
          clear he_w9
          have hn_b3 : w.heap.size ≤ b3 := by rw [hs_b3]; exact hO.size
          have hl_hv_33_b3 := Nw.below hv_33 (Nat.le_of_eq hs_b3.symm)
          have hq_b1_b3 : b1 < b3 := by rw [hs_b3]; exact blk_lt hb_b1
          have hq_b2_b3 : b2 < b3 := by rw [hs_b3]; exact blk_lt hb_b2
          replace hb_b1 := ho_w9.get hb_b1
          replace hb_b2 := ho_w9.get hb_b2
          replace hO := hO.ext ho_w9
          replace hv_33 := hv_33.ext ho_w9
          refine WL.eff _ rfl rfl (Eff.storeBlk (vs := [.slice (A_33) ((purgeL l).length) (c_33)]) (cs := [.slice (none) (0) (0)]) (cs' := [.slice (A_33) ((purgeL l).length) (c_33)]) rfl rfl rfl Try.sizeOf41 rfl (List.forall_mem_cons.2 ⟨rfl, (fun _ h => nomatch h)⟩) hb_b3 rfl rfl) ?_
          rintro _ w10 ⟨ho_w10, hb_new⟩
          replace hb_b1 := ho_w10.get hb_b1 (by omega)
          replace hb_b2 := ho_w10.get hb_b2 (by omega)
          replace hb_b3 := hb_new
          replace hO := hO.trans ho_w10 (by intro i hi1 hi2; first | exact hi2 | (exfalso; omega) | (left; exact hi2) | (right; exact hi2) | (right; left; exact hi2))
          replace hv_33 := hv_33.only ho_w10 (fun q hq h => absurd (show q = b3 from h) (by have := hv_33.2 q hq; have := hl_hv_33_b3 q hq; omega))
          refine WL.fin ?_
          refine Nm.code ?_
          refine W.seq ?_
          have hlt_b1_w10 : b1 < w10.heap.size := blk_lt hb_b1
          have hlt_b2_w10 : b2 < w10.heap.size := blk_lt hb_b2
          have hlt_b3_w10 : b3 < w10.heap.size := blk_lt hb_b3
          have hz_w10 := hO.size
          refine W.region_flat 43 Try_follows (by kernel_rfl) (by kernel_rfl) rfl ?_
          refine FL.run (i := 0) [] false (fun v_ _ => v_ = .agg #[.slice (A) (l.length) (c)]) rfl rfl rfl (by kernel_rfl) (Stable.eq _) ?_ ?_
          · intro wb1 ho_wb1
            have hb_b1 := ho_wb1.get hb_b1
            exact And.intro rfl (Eff.reads (Yield.loadAgg (cs := [.slice (A) (l.length) (c)]) rfl rfl Try.isAgg41 Try.sizeOf41 (blk_cells hb_b1 rfl)) rfl)
          refine FL.run (i := 1) [] false (fun v_ _ => v_ = .agg #[.slice (A) (l.length) (c)]) rfl rfl rfl (by kernel_rfl) (Stable.eq _) ?_ ?_
          · intro wb1 ho_wb1
            have hb_b1 := ho_wb1.get hb_b1
            exact And.intro rfl (Eff.reads (Yield.loadAgg (cs := [.slice (A) (l.length) (c)]) rfl rfl Try.isAgg41 Try.sizeOf41 (blk_cells hb_b1 rfl)) rfl)
          refine FL.run (i := 2) [0, 1] true (NwLg w10.heap.size encEn 51 (joinT l l)) rfl rfl rfl (by kernel_rfl) (NwLg.stable _ _ _ _) ?_ ?_
          · intro wb1 ho_wb1
            rintro _ rfl
            rintro _ rfl
            have hO := hO.ext ho_wb1
            exact And.intro rfl (Eff.callsLg w10.heap.size ho_wb1.size (Eff.fn rfl rfl Try.call25 (by rintro _ rfl; exact join_any _ _ _ _ (hr.ext hO) (by omega) _ _ _ (hr.ext hO) (by omega))))
          refine FL.run (i := 3) [2] false (NwSl w10.heap.size encEn 51 (joinT l l)) rfl rfl rfl (by kernel_rfl) (NwSl.stable _ _ _ _) ?_ ?_
          · intro wb1 ho_wb1
            rintro _ ⟨A_36, c_36, rfl, hc_36, hv_36⟩
            exact And.intro rfl (Eff.reads (Yield.field (v := .slice (A_36) ((joinT l l).length) (c_36)) rfl rfl Try.runUnderlying41 rfl Try.isAgg39 rfl) ⟨_, _, rfl, hc_36, hv_36⟩)
          refine FL.run (i := 4) [3] true (NwSl w10.heap.size encEn 66 (joinT l l)) rfl rfl rfl (by kernel_rfl) (NwSl.stable _ _ _ _) ?_ ?_
          · intro wb1 ho_wb1
            rintro _ ⟨A_37, c_37, rfl, hc_37, hv_37⟩
            exact And.intro rfl (Eff.callsSl w10.heap.size ho_wb1.size (Eff.fn rfl rfl Try.call24 (by rintro _ rfl; exact log1_any _ _ _ _ hv_37.rd (Nat.le_trans (joinT_len l l) (by omega)))))
          refine FL.run (i := 5) [] false (fun v_ _ => v_ = .slice (A) (l.length) (c)) rfl rfl rfl (by kernel_rfl) (Stable.eq _) ?_ ?_
          · intro wb1 ho_wb1
            exact And.intro rfl (Eff.reads (Yield.move rfl rfl) rfl)
          refine FL.run (i := 6) [5] true (NwSl w10.heap.size encEn 66 l) rfl rfl rfl (by kernel_rfl) (NwSl.stable _ _ _ _) ?_ ?_
          · intro wb1 ho_wb1
            rintro _ rfl
            have hO := hO.ext ho_wb1
            exact And.intro rfl (Eff.callsSl w10.heap.size ho_wb1.size (Eff.fn rfl rfl Try.call24 (by rintro _ rfl; exact log1_any _ _ _ _ (hr.ext hO) (by omega))))
          refine FL.run (i := 7) [4, 6] false (fun v_ _ => v_ = .bool true) rfl rfl rfl (by kernel_rfl) (Stable.eq _) ?_ ?_
          · intro wb1 ho_wb1
            rintro _ ⟨A_38, c_38, rfl, hc_38, hv_38⟩
            rintro _ ⟨A_40, c_40, rfl, hc_40, hv_40⟩
            exact And.intro rfl (Eff.calls (Eff.fn rfl rfl Try.call23 (by rintro _ rfl; exact Fc.valE (logs_any _ _ _ _ hv_38.rd (Nat.le_trans (joinT_len l l) (by omega)) _ _ _ hv_40.rd (by omega)) (bool_eq (decide_eq_true (joinT_self hgood))))))
          refine FL.run (i := 8) [7] false (fun v_ _ => v_ = .bool true) rfl rfl rfl (by kernel_rfl) (Stable.eq _) ?_ ?_
          · intro wb1 ho_wb1
            rintro _ rfl
            exact And.intro rfl (Eff.reads (Yield.move rfl rfl) rfl)
          refine FL.run (i := 9) [8] false (fun v_ _ => v_ = .agg #[.slice (A) (l.length) (c)]) rfl rfl rfl (by kernel_rfl) (Stable.eq _) ?_ ?_
          · intro wb1 ho_wb1
            rintro _ rfl
            have hb_b1 := ho_wb1.get hb_b1
            exact And.intro rfl (Eff.reads (Yield.loadAgg (cs := [.slice (A) (l.length) (c)]) rfl rfl Try.isAgg41 Try.sizeOf41 (blk_cells hb_b1 rfl)) rfl)
          refine FL.run (i := 10) [8] false (fun v_ _ => v_ = .agg #[.slice (A2) (l2.length) (c2)]) rfl rfl rfl (by kernel_rfl) (Stable.eq _) ?_ ?_
          · intro wb1 ho_wb1
            rintro _ rfl
            have hb_b2 := ho_wb1.get hb_b2
            exact And.intro rfl (Eff.reads (Yield.loadAgg (cs := [.slice (A2) (l2.length) (c2)]) rfl rfl Try.isAgg41 Try.sizeOf41 (blk_cells hb_b2 rfl)) rfl)
          refine FL.run (i := 11) [9, 10, 8] true (NwLg w10.heap.size encEn 51 (joinT l l2)) rfl rfl rfl (by kernel_rfl) (NwLg.stable _ _ _ _) ?_ ?_
          · intro wb1 ho_wb1
            rintro _ rfl
            rintro _ rfl
            rintro _ rfl
            have hO := hO.ext ho_wb1
            exact And.intro rfl (Eff.callsLg w10.heap.size ho_wb1.size (Eff.fn rfl rfl Try.call25 (by rintro _ rfl; exact join_any _ _ _ _ (hr.ext hO) (by omega) _ _ _ (hr2.ext hO) (by omega))))
          refine FL.run (i := 12) [11, 8] false (NwSl w10.heap.size encEn 51 (joinT l l2)) rfl rfl rfl (by kernel_rfl) (NwSl.stable _ _ _ _) ?_ ?_
          · intro wb1 ho_wb1
            rintro _ ⟨A_45, c_45, rfl, hc_45, hv_45⟩
            rintro _ rfl
            exact And.intro rfl (Eff.reads (Yield.field (v := .slice (A_45) ((joinT l l2).length) (c_45)) rfl rfl Try.runUnderlying41 rfl Try.isAgg39 rfl) ⟨_, _, rfl, hc_45, hv_45⟩)
          refine FL.run (i := 13) [12, 8] true (NwSl w10.heap.size encEn 66 (joinT l l2)) rfl rfl rfl (by kernel_rfl) (NwSl.stable _ _ _ _) ?_ ?_
          · intro wb1 ho_wb1
            rintro _ ⟨A_46, c_46, rfl, hc_46, hv_46⟩
            rintro _ rfl
            exact And.intro rfl (Eff.callsSl w10.heap.size ho_wb1.size (Eff.fn rfl rfl Try.call24 (by rintro _ rfl; exact log1_any _ _ _ _ hv_46.rd (Nat.le_trans (joinT_len l l2) (by omega)))))
          refine FL.run (i := 14) [8] false (fun v_ _ => v_ = .agg #[.slice (A2) (l2.length) (c2)]) rfl rfl rfl (by kernel_rfl) (Stable.eq _) ?_ ?_
          · intro wb1 ho_wb1
            rintro _ rfl
            have hb_b2 := ho_wb1.get hb_b2
            exact And.intro rfl (Eff.reads (Yield.loadAgg (cs := [.slice (A2) (l2.length) (c2)]) rfl rfl Try.isAgg41 Try.sizeOf41 (blk_cells hb_b2 rfl)) rfl)
          refine FL.run (i := 15) [8] false (fun v_ _ => v_ = .agg #[.slice (A) (l.length) (c)]) rfl rfl rfl (by kernel_rfl) (Stable.eq _) ?_ ?_
          · intro wb1 ho_wb1
            rintro _ rfl
            have hb_b1 := ho_wb1.get hb_b1
            exact And.intro rfl (Eff.reads (Yield.loadAgg (cs := [.slice (A) (l.length) (c)]) rfl rfl Try.isAgg41 Try.sizeOf41 (blk_cells hb_b1 rfl)) rfl)
          refine FL.run (i := 16) [14, 15, 8] true (NwLg w10.heap.size encEn 51 (joinT l2 l)) rfl rfl rfl (by kernel_rfl) (NwLg.stable _ _ _ _) ?_ ?_
          · intro wb1 ho_wb1
            rintro _ rfl
            rintro _ rfl
            rintro _ rfl
            have hO := hO.ext ho_wb1
            exact And.intro rfl (Eff.callsLg w10.heap.size ho_wb1.size (Eff.fn rfl rfl Try.call25 (by rintro _ rfl; exact join_any _ _ _ _ (hr2.ext hO) (by omega) _ _ _ (hr.ext hO) (by omega))))
          refine FL.run (i := 17) [16, 8] false (NwSl w10.heap.size encEn 51 (joinT l2 l)) rfl rfl rfl (by kernel_rfl) (NwSl.stable _ _ _ _) ?_ ?_
          · intro wb1 ho_wb1
            rintro _ ⟨A_50, c_50, rfl, hc_50, hv_50⟩
            rintro _ rfl
            exact And.intro rfl (Eff.reads (Yield.field (v := .slice (A_50) ((joinT l2 l).length) (c_50)) rfl rfl Try.runUnderlying41 rfl Try.isAgg39 rfl) ⟨_, _, rfl, hc_50, hv_50⟩)
          refine FL.run (i := 18) [17, 8] true (NwSl w10.heap.size encEn 66 (joinT l2 l)) rfl rfl rfl (by kernel_rfl) (NwSl.stable _ _ _ _) ?_ ?_
          · intro wb1 ho_wb1
            rintro _ ⟨A_51, c_51, rfl, hc_51, hv_51⟩
            rintro _ rfl
            exact And.intro rfl (Eff.callsSl w10.heap.size ho_wb1.size (Eff.fn rfl rfl Try.call24 (by rintro _ rfl; exact log1_any _ _ _ _ hv_51.rd (Nat.le_trans (joinT_len l2 l) (by omega)))))
          refine FL.run (i := 19) [13, 18, 8] false (fun v_ _ => v_ = .bool true) rfl rfl rfl (by kernel_rfl) (Stable.eq _) ?_ ?_
          · intro wb1 ho_wb1
            rintro _ ⟨A_47, c_47, rfl, hc_47, hv_47⟩
            rintro _ ⟨A_52, c_52, rfl, hc_52, hv_52⟩
            rintro _ rfl
            exact And.intro rfl (Eff.calls (Eff.fn rfl rfl Try.call23 (by rintro _ rfl; exact Fc.valE (logs_any _ _ _ _ hv_47.rd (Nat.le_trans (joinT_len l l2) (by omega)) _ _ _ hv_52.rd (Nat.le_trans (joinT_len l2 l) (by omega))) (bool_eq (decide_eq_true (joinT_comm hgood hgood2))))))
          refine FL.run (i := 20) [8, 19] false (fun v_ _ => v_ = .bool true) rfl rfl rfl (by kernel_rfl) (Stable.eq _) ?_ ?_
          · intro wb1 ho_wb1
            rintro _ rfl
            rintro _ rfl
            exact And.intro rfl (Eff.reads (Yield.pick_t rfl rfl rfl) rfl)
          refine FL.run (i := 21) [20] false (fun v_ _ => v_ = .bool true) rfl rfl rfl (by kernel_rfl) (Stable.eq _) ?_ ?_
          · intro wb1 ho_wb1
            rintro _ rfl
            exact And.intro rfl (Eff.reads (Yield.move rfl rfl) rfl)
          refine FL.run (i := 22) [21] false (fun v_ _ => v_ = .agg #[.slice (A) (l.length) (c)]) rfl rfl rfl (by kernel_rfl) (Stable.eq _) ?_ ?_
          · intro wb1 ho_wb1
            rintro _ rfl
            have hb_b1 := ho_wb1.get hb_b1
            exact And.intro rfl (Eff.reads (Yield.loadAgg (cs := [.slice (A) (l.length) (c)]) rfl rfl Try.isAgg41 Try.sizeOf41 (blk_cells hb_b1 rfl)) rfl)
          refine FL.run (i := 23) [21] false (fun v_ _ => v_ = .agg #[.slice (A2) (l2.length) (c2)]) rfl rfl rfl (by kernel_rfl) (Stable.eq _) ?_ ?_
          · intro wb1 ho_wb1
            rintro _ rfl
            have hb_b2 := ho_wb1.get hb_b2
            exact And.intro rfl (Eff.reads (Yield.loadAgg (cs := [.slice (A2) (l2.length) (c2)]) rfl rfl Try.isAgg41 Try.sizeOf41 (blk_cells hb_b2 rfl)) rfl)
          refine FL.run (i := 24) [22, 23, 21] true (NwLg w10.heap.size encEn 51 (joinT l l2)) rfl rfl rfl (by kernel_rfl) (NwLg.stable _ _ _ _) ?_ ?_
          · intro wb1 ho_wb1
            rintro _ rfl
            rintro _ rfl
            rintro _ rfl
            have hO := hO.ext ho_wb1
            exact And.intro rfl (Eff.callsLg w10.heap.size ho_wb1.size (Eff.fn rfl rfl Try.call25 (by rintro _ rfl; exact join_any _ _ _ _ (hr.ext hO) (by omega) _ _ _ (hr2.ext hO) (by omega))))
          refine FL.run (i := 25) [24, 21] false (fun v_ _ => v_ = .bool true) rfl rfl rfl (by kernel_rfl) (Stable.eq _) ?_ ?_
          · intro wb1 ho_wb1
            rintro _ ⟨A_58, c_58, rfl, hc_58, hv_58⟩
            rintro _ rfl
            exact And.intro rfl (Eff.calls (Eff.fn rfl rfl Try.call21 (by rintro _ rfl; exact Fc.valE (good_any _ _ _ _ hv_58.rd (Nat.le_trans (joinT_len l l2) (by omega))) (bool_eq (joinT_good hgood hgood2)))))
          refine FL.run (i := 26) [21, 25] false (fun v_ _ => v_ = .bool true) rfl rfl rfl (by kernel_rfl) (Stable.eq _) ?_ ?_
          · intro wb1 ho_wb1
            rintro _ rfl
            rintro _ rfl
            exact And.intro rfl (Eff.reads (Yield.pick_t rfl rfl rfl) rfl)
          refine FL.run (i := 27) [26] false (fun v_ _ => v_ = .bool true) rfl rfl rfl (by kernel_rfl) (Stable.eq _) ?_ ?_
          · intro wb1 ho_wb1
            rintro _ rfl
            exact And.intro rfl (Eff.reads (Yield.move rfl rfl) rfl)
          refine FL.run (i := 28) [27] false (fun v_ _ => v_ = .agg #[.slice (A_33) ((purgeL l).length) (c_33)]) rfl rfl rfl (by kernel_rfl) (Stable.eq _) ?_ ?_
          · intro wb1 ho_wb1
            rintro _ rfl
            have hb_b3 := ho_wb1.get hb_b3
            exact And.intro rfl (Eff.reads (Yield.loadAgg (cs := [.slice (A_33) ((purgeL l).length) (c_33)]) rfl rfl Try.isAgg41 Try.sizeOf41 (blk_cells hb_b3 rfl)) rfl)
          refine FL.run (i := 29) [28, 27] true (NwLg w10.heap.size encEn 51 (purgeL l)) rfl rfl rfl (by kernel_rfl) (NwLg.stable _ _ _ _) ?_ ?_
          · intro wb1 ho_wb1
            rintro _ rfl
            rintro _ rfl
            have hv_33 := hv_33.ext ho_wb1
            exact And.intro rfl (Eff.callsLg w10.heap.size ho_wb1.size (Eff.fn rfl rfl Try.call22 (by rintro _ rfl; exact Fc.mono (purge_any _ _ _ _ hv_33.rd (Nat.le_trans (purge_len l) (by omega))) (fun v w' h => by rw [purgeT_purge hgood] at h; exact h))))
          refine FL.run (i := 30) [29, 27] false (NwSl w10.heap.size encEn 51 (purgeL l)) rfl rfl rfl (by kernel_rfl) (NwSl.stable _ _ _ _) ?_ ?_
          · intro wb1 ho_wb1
            rintro _ ⟨A_63, c_63, rfl, hc_63, hv_63⟩
            rintro _ rfl
            exact And.intro rfl (Eff.reads (Yield.field (v := .slice (A_63) ((purgeL l).length) (c_63)) rfl rfl Try.runUnderlying41 rfl Try.isAgg39 rfl) ⟨_, _, rfl, hc_63, hv_63⟩)
          refine FL.run (i := 31) [30, 27] true (NwSl w10.heap.size encEn 66 (purgeL l)) rfl rfl rfl (by kernel_rfl) (NwSl.stable _ _ _ _) ?_ ?_
          · intro wb1 ho_wb1
            rintro _ ⟨A_64, c_64, rfl, hc_64, hv_64⟩
            rintro _ rfl
            exact And.intro rfl (Eff.callsSl w10.heap.size ho_wb1.size (Eff.fn rfl rfl Try.call24 (by rintro _ rfl; exact log1_any _ _ _ _ hv_64.rd (Nat.le_trans (purge_len l) (by omega)))))
          refine FL.run (i := 32) [27] false (fun v_ _ => v_ = .pointer (some ⟨b3, 0, none⟩)) rfl rfl rfl (by kernel_rfl) (Stable.eq _) ?_ ?_
          · intro wb1 ho_wb1
            rintro _ rfl
            exact And.intro rfl (Eff.reads (Yield.fieldAt (k := 0) rfl rfl Try.runUnderlying41 rfl Try.sizeOf39 rfl) rfl)
          refine FL.run (i := 33) [32, 27] false (fun v_ _ => v_ = .slice (A_33) ((purgeL l).length) (c_33)) rfl rfl rfl (by kernel_rfl) (Stable.eq _) ?_ ?_
          · intro wb1 ho_wb1
            rintro _ rfl
            rintro _ rfl
            have hb_b3 := ho_wb1.get hb_b3
            exact And.intro rfl (Eff.reads (Yield.load (v := .slice (A_33) ((purgeL l).length) (c_33)) rfl rfl Try.isAgg39 (cell_get hb_b3 rfl)) rfl)
          refine FL.run (i := 34) [33, 27] true (NwSl w10.heap.size encEn 66 (purgeL l)) rfl rfl rfl (by kernel_rfl) (NwSl.stable _ _ _ _) ?_ ?_
          · intro wb1 ho_wb1
            rintro _ rfl
            rintro _ rfl
            have hv_33 := hv_33.ext ho_wb1
            exact And.intro rfl (Eff.callsSl w10.heap.size ho_wb1.size (Eff.fn rfl rfl Try.call24 (by rintro _ rfl; exact log1_any _ _ _ _ hv_33.rd (Nat.le_trans (purge_len l) (by omega)))))
          refine FL.run (i := 35) [31, 34, 27] false (fun v_ _ => v_ = .bool true) rfl rfl rfl (by kernel_rfl) (Stable.eq _) ?_ ?_
          · intro wb1 ho_wb1
            rintro _ ⟨A_65, c_65, rfl, hc_65, hv_65⟩
            rintro _ ⟨A_68, c_68, rfl, hc_68, hv_68⟩
            rintro _ rfl
            exact And.intro rfl (Eff.calls (Eff.fn rfl rfl Try.call23 (by rintro _ rfl; exact Fc.valE (logs_any _ _ _ _ hv_65.rd (Nat.le_trans (purge_len l) (by omega)) _ _ _ hv_68.rd (Nat.le_trans (purge_len l) (by omega))) (bool_eq (decide_eq_true (rfl))))))
          refine FL.run (i := 36) [27, 35] false (fun v_ _ => v_ = .bool true) rfl rfl rfl (by kernel_rfl) (Stable.eq _) ?_ ?_
          · intro wb1 ho_wb1
            rintro _ rfl
            rintro _ rfl
            exact And.intro rfl (Eff.reads (Yield.pick_t rfl rfl rfl) rfl)
          refine FL.run (i := 37) [36] false (fun v_ _ => v_ = .bool true) rfl rfl rfl (by kernel_rfl) (Stable.eq _) ?_ ?_
          · intro wb1 ho_wb1
            rintro _ rfl
            exact And.intro rfl (Eff.reads (Yield.move rfl rfl) rfl)
          refine FL.run (i := 38) [37] false (fun v_ _ => v_ = .pointer (some ⟨b3, 0, none⟩)) rfl rfl rfl (by kernel_rfl) (Stable.eq _) ?_ ?_
          · intro wb1 ho_wb1
            rintro _ rfl
            exact And.intro rfl (Eff.reads (Yield.fieldAt (k := 0) rfl rfl Try.runUnderlying41 rfl Try.sizeOf39 rfl) rfl)
          refine FL.run (i := 39) [38, 37] false (fun v_ _ => v_ = .slice (A_33) ((purgeL l).length) (c_33)) rfl rfl rfl (by kernel_rfl) (Stable.eq _) ?_ ?_
          · intro wb1 ho_wb1
            rintro _ rfl
            rintro _ rfl
            have hb_b3 := ho_wb1.get hb_b3
            exact And.intro rfl (Eff.reads (Yield.load (v := .slice (A_33) ((purgeL l).length) (c_33)) rfl rfl Try.isAgg39 (cell_get hb_b3 rfl)) rfl)
          refine FL.run (i := 40) [39, 37] false (fun v_ _ => v_ = .int .i64 ((purgeL l).length)) rfl rfl rfl (by kernel_rfl) (Stable.eq _) ?_ ?_
          · intro wb1 ho_wb1
            rintro _ rfl
            rintro _ rfl
            exact And.intro rfl (Eff.reads (Yield.lenSlice rfl rfl Try.runUnderlying39) rfl)
          refine FL.run (i := 41) [37] false (fun v_ _ => v_ = .slice (A) (l.length) (c)) rfl rfl rfl (by kernel_rfl) (Stable.eq _) ?_ ?_
          · intro wb1 ho_wb1
            rintro _ rfl
            exact And.intro rfl (Eff.reads (Yield.move rfl rfl) rfl)
          refine FL.run (i := 42) [41, 37] false (fun v_ _ => v_ = .int .i64 (l.length)) rfl rfl rfl (by kernel_rfl) (Stable.eq _) ?_ ?_
          · intro wb1 ho_wb1
            rintro _ rfl
            rintro _ rfl
            exact And.intro rfl (Eff.reads (Yield.lenSlice rfl rfl Try.runUnderlying39) rfl)
          refine FL.fin rfl [37, 40, 42] ?_
          intro w11 ho_w11
          rintro _ rfl
          rintro _ rfl
          rintro _ rfl
          intro _
          show WL _ _ _ _ _ _ _ _
          replace hb_b1 := ho_w11.get hb_b1
          replace hb_b2 := ho_w11.get hb_b2
          replace hb_b3 := ho_w11.get hb_b3
          replace hO := hO.ext ho_w11
          replace hv_33 := hv_33.ext ho_w11
          refine WL.yield_g rfl rfl rfl (Yield.ar rfl rfl rfl rfl (bool_true (by have := purge_len l; omega))) ?_
          refine WL.yield rfl rfl rfl (Yield.pick_t rfl rfl rfl) ?_
          refine WL.yield rfl rfl rfl (Yield.assign rfl rfl) ?_
          refine WL.fin ?_
          refine Nm.code ?_
          refine W.ret_post (fun _ _ h => h) Try.results5 rfl ?_
          exact ⟨hO, rfl⟩

end Go.Proofs.Ytpnoddfjklcahaa
