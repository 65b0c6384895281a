import Derived.Test.YtpnoddfjklcahaaTr7

set_option linter.all false
namespace Go.Proofs.Ytpnoddfjklcahaa
open Go Go.Lv Go.RowKit Go.Shoal


theorem awake18 (w : World)  :
    Fc Try.prog 20 #[] w (fun v w' => Ext w w' ∧ v = .bool true) := by
  refine Fc.enter (args := []) Try.func20 rfl Try.ntmps20 rfl ?_
  intro K_
  have hO : Only (fun _ => False) w w := Only.refl _ _
  refine W.seq ?_
  refine W.region ?_
  refine WL.yield rfl rfl rfl (Yield.assign rfl rfl) ?_
  refine WL.fin ?_
  refine Nm.code ?_
  refine W.seq ?_
  refine W.region ?_
  refine WL.yield rfl rfl rfl (Yield.build (cells := #[.int .i64 (0), .int .u64 (2), .int .u64 (2)]) rfl rfl (by kernel_rfl)) ?_
  refine WL.eff _ rfl rfl (Eff.buildSlice (cs := [.int .i64 (0), .int .u64 (2), .int .u64 (2)]) [.agg #[.int .i64 (0), .int .u64 (2), .int .u64 (2)]] rfl rfl Try.runUnderlying39 Try.sizeOf51 Try.zeroValue51 rfl rfl rfl (List.forall_mem_cons.2 ⟨rfl, (fun _ h => nomatch h)⟩) rfl) ?_
  rintro _ w1 ⟨_, b1, rfl, hs_b1, rfl, he_w1⟩
  have hb_b1 : w1.heap[b1]? = some (.cells #[.int .i64 (0), .int .u64 (2), .int .u64 (2)] 51 (0, 0)) := by rw [he_w1, hs_b1]; exact new_get _ _
  have ho_w1 : Ext w w1 := by rw [he_w1]; exact Ext.alloc _ _
  clear he_w1
  have hn_b1 : w.heap.size ≤ b1 := by rw [hs_b1]; exact hO.size
  replace hO := hO.ext ho_w1
  refine WL.yield rfl rfl rfl (Yield.build (cells := #[.slice (some ⟨b1, 0, none⟩) (1) (1)]) rfl rfl (by kernel_rfl)) ?_
  refine WL.yield rfl rfl rfl (Yield.build (cells := #[.int .i64 (0), .int .u64 (1), .int .u64 (8)]) rfl rfl (by kernel_rfl)) ?_
  refine WL.eff _ rfl rfl (Eff.buildSlice (cs := [.int .i64 (0), .int .u64 (1), .int .u64 (8)]) [.agg #[.int .i64 (0), .int .u64 (1), .int .u64 (8)]] rfl rfl Try.runUnderlying39 Try.sizeOf51 Try.zeroValue51 rfl rfl rfl (List.forall_mem_cons.2 ⟨rfl, (fun _ h => nomatch h)⟩) rfl) ?_
  rintro _ w2 ⟨_, b2, rfl, hs_b2, rfl, he_w2⟩
  have hb_b2 : w2.heap[b2]? = some (.cells #[.int .i64 (0), .int .u64 (1), .int .u64 (8)] 51 (0, 0)) := by rw [he_w2, hs_b2]; exact new_get _ _
  have ho_w2 : Ext w1 w2 := by rw [he_w2]; exact Ext.alloc _ _
  clear he_w2
  have hn_b2 : w.heap.size ≤ b2 := by rw [hs_b2]; exact hO.size
  have hq_b1_b2 : b1 < b2 := by rw [hs_b2]; exact blk_lt hb_b1
  replace hb_b1 := ho_w2.get hb_b1
  replace hO := hO.ext ho_w2
  refine WL.yield rfl rfl rfl (Yield.build (cells := #[.slice (some ⟨b2, 0, none⟩) (1) (1)]) rfl rfl (by kernel_rfl)) ?_
  refine WL.eff _ rfl rfl (Eff.alloc rfl Try.zeroValue41) ?_
  rintro _ w3 ⟨_, b3, rfl, hs_b3, rfl, he_w3⟩
  have hb_b3 : w3.heap[b3]? = some (.cells #[.slice (none) (0) (0)] 41 (0, 0)) := by rw [he_w3, hs_b3]; exact new_get _ _
  have ho_w3 : Ext w2 w3 := by rw [he_w3]; exact Ext.alloc _ _
  clear he_w3
  have hn_b3 : w.heap.size ≤ b3 := by rw [hs_b3]; exact hO.size
  have hq_b1_b3 : b1 < b3 := by rw [hs_b3]; exact blk_lt hb_b1
  have hq_b2_b3 : b2 < b3 := by rw [hs_b3]; exact blk_lt hb_b2
  replace hb_b1 := ho_w3.get hb_b1
  replace hb_b2 := ho_w3.get hb_b2
  replace hO := hO.ext ho_w3
  refine WL.eff _ rfl rfl (Eff.alloc rfl Try.zeroValue41) ?_
  rintro _ w4 ⟨_, b4, rfl, hs_b4, rfl, he_w4⟩
  have hb_b4 : w4.heap[b4]? = some (.cells #[.slice (none) (0) (0)] 41 (0, 0)) := by rw [he_w4, hs_b4]; exact new_get _ _
  have ho_w4 : Ext w3 w4 := by rw [he_w4]; exact Ext.alloc _ _
  clear he_w4
  have hn_b4 : w.heap.size ≤ b4 := by rw [hs_b4]; exact hO.size
  have hq_b1_b4 : b1 < b4 := by rw [hs_b4]; exact blk_lt hb_b1
  have hq_b2_b4 : b2 < b4 := by rw [hs_b4]; exact blk_lt hb_b2
  have hq_b3_b4 : b3 < b4 := by rw [hs_b4]; exact blk_lt hb_b3
  replace hb_b1 := ho_w4.get hb_b1
  replace hb_b2 := ho_w4.get hb_b2
  replace hb_b3 := ho_w4.get hb_b3
  replace hO := hO.ext ho_w4
  refine WL.eff _ rfl rfl (Eff.storeBlk (vs := [.slice (some ⟨b1, 0, none⟩) (1) (1)]) (cs := [.slice (none) (0) (0)]) (cs' := [.slice (some ⟨b1, 0, none⟩) (1) (1)]) rfl rfl rfl Try.sizeOf41 rfl (List.forall_mem_cons.2 ⟨rfl, (fun _ h => nomatch h)⟩) hb_b3 rfl rfl) ?_
  rintro _ w5 ⟨ho_w5, hb_new⟩
  replace hb_b1 := ho_w5.get hb_b1 (by omega)
  replace hb_b2 := ho_w5.get hb_b2 (by omega)
  replace hb_b3 := hb_new
  replace hb_b4 := ho_w5.get hb_b4 (by omega)
  replace hO := hO.trans ho_w5 (by intro i hi1 hi2; first | exact hi2 | (exfalso; omega) | (left; exact hi2) | (right; exact hi2) | (right; left; exact hi2))
  refine WL.eff _ rfl rfl (Eff.storeBlk (vs := [.slice (some ⟨b2, 0, none⟩) (1) (1)]) (cs := [.slice (none) (0) (0)]) (cs' := [.slice (some ⟨b2, 0, none⟩) (1) (1)]) rfl rfl rfl Try.sizeOf41 rfl (List.forall_mem_cons.2 ⟨rfl, (fun _ h => nomatch h)⟩) hb_b4 rfl rfl) ?_
  rintro _ w6 ⟨ho_w6, hb_new⟩
  replace hb_b1 := ho_w6.get hb_b1 (by omega)
  replace hb_b2 := ho_w6.get hb_b2 (by omega)
  replace hb_b3 := ho_w6.get hb_b3 (by omega)
  replace hb_b4 := hb_new
  replace hO := hO.trans ho_w6 (by intro i hi1 hi2; first | exact hi2 | (exfalso; omega) | (left; exact hi2) | (right; exact hi2) | (right; left; exact hi2))
  refine WL.fin ?_
  refine Nm.code ?_
  refine W.seq ?_
  have hlt_b1_w6 : b1 < w6.heap.size := blk_lt hb_b1
  have hlt_b2_w6 : b2 < w6.heap.size := blk_lt hb_b2
  have hlt_b3_w6 : b3 < w6.heap.size := blk_lt hb_b3
  have hlt_b4_w6 : b4 < w6.heap.size := blk_lt hb_b4
  have hz_w6 := hO.size
  refine W.region_flat 10 Try_follows (by kernel_rfl) (by kernel_rfl) rfl ?_
  refine FL.run (i := 0) [] false (fun v_ _ => v_ = .agg #[.slice (some ⟨b1, 0, none⟩) (1) (1)]) rfl rfl rfl (by kernel_rfl) (Stable.eq _) ?_ ?_
  · intro wb1 ho_wb1
    have hb_b3 := ho_wb1.get hb_b3
    exact And.intro rfl (Eff.reads (Yield.loadAgg (cs := [.slice (some ⟨b1, 0, none⟩) (1) (1)]) rfl rfl Try.isAgg41 Try.sizeOf41 (blk_cells hb_b3 rfl)) rfl)
  refine FL.run (i := 1) [0] false (fun v_ _ => v_ = .bool true) rfl rfl rfl (by kernel_rfl) (Stable.eq _) ?_ ?_
  · intro wb1 ho_wb1
    rintro _ rfl
    have hb_b1 := ho_wb1.get hb_b1
    exact And.intro rfl (Eff.calls (Eff.fn rfl rfl Try.call21 (by rintro _ rfl; exact Fc.mono (good_any _ _ 1 [⟨0, 2, 2⟩] (blk_rd (E := encEn) (l := [⟨0, 2, 2⟩]) hb_b1 rfl) (by show 1 ≤ 100000; omega)) (fun _ _ h => ⟨h.1, h.2.trans (bool_eq (by decide))⟩))))
  refine FL.run (i := 2) [1] false (fun v_ _ => v_ = .bool true) rfl rfl rfl (by kernel_rfl) (Stable.eq _) ?_ ?_
  · intro wb1 ho_wb1
    rintro _ rfl
    exact And.intro rfl (Eff.reads (Yield.move rfl rfl) rfl)
  refine FL.run (i := 3) [2] false (fun v_ _ => v_ = .agg #[.slice (some ⟨b1, 0, none⟩) (1) (1)]) rfl rfl rfl (by kernel_rfl) (Stable.eq _) ?_ ?_
  · intro wb1 ho_wb1
    rintro _ rfl
    have hb_b3 := ho_wb1.get hb_b3
    exact And.intro rfl (Eff.reads (Yield.loadAgg (cs := [.slice (some ⟨b1, 0, none⟩) (1) (1)]) rfl rfl Try.isAgg41 Try.sizeOf41 (blk_cells hb_b3 rfl)) rfl)
  refine FL.run (i := 4) [2] false (fun v_ _ => v_ = .agg #[.slice (some ⟨b2, 0, none⟩) (1) (1)]) rfl rfl rfl (by kernel_rfl) (Stable.eq _) ?_ ?_
  · intro wb1 ho_wb1
    rintro _ rfl
    have hb_b4 := ho_wb1.get hb_b4
    exact And.intro rfl (Eff.reads (Yield.loadAgg (cs := [.slice (some ⟨b2, 0, none⟩) (1) (1)]) rfl rfl Try.isAgg41 Try.sizeOf41 (blk_cells hb_b4 rfl)) rfl)
  refine FL.run (i := 5) [3, 4, 2] true (NwLg w6.heap.size encEn 51 (joinT [⟨0, 2, 2⟩] [⟨0, 1, 8⟩])) rfl rfl rfl (by kernel_rfl) (NwLg.stable _ _ _ _) ?_ ?_
  · intro wb1 ho_wb1
    rintro _ rfl
    rintro _ rfl
    rintro _ rfl
    have hb_b1 := ho_wb1.get hb_b1
    have hb_b2 := ho_wb1.get hb_b2
    exact And.intro rfl (Eff.callsLg w6.heap.size ho_wb1.size (Eff.fn rfl rfl Try.call25 (by rintro _ rfl; exact join_any _ _ 1 [⟨0, 2, 2⟩] (blk_rd (E := encEn) (l := [⟨0, 2, 2⟩]) hb_b1 rfl) (by show 1 ≤ 100000; omega) _ 1 [⟨0, 1, 8⟩] (blk_rd (E := encEn) (l := [⟨0, 1, 8⟩]) hb_b2 rfl) (by show 1 ≤ 100000; omega))))
  refine FL.run (i := 6) [5, 2] false (NwSl w6.heap.size encEn 51 (joinT [⟨0, 2, 2⟩] [⟨0, 1, 8⟩])) rfl rfl rfl (by kernel_rfl) (NwSl.stable _ _ _ _) ?_ ?_
  · intro wb1 ho_wb1
    rintro _ ⟨A_14, c_14, rfl, hc_14, hv_14⟩
    rintro _ rfl
    exact And.intro rfl (Eff.reads (Yield.field (v := .slice (A_14) ((joinT [⟨0, 2, 2⟩] [⟨0, 1, 8⟩]).length) (c_14)) rfl rfl Try.runUnderlying41 rfl Try.isAgg39 rfl) ⟨_, _, rfl, hc_14, hv_14⟩)
  refine FL.run (i := 7) [6, 2] true (NwSl w6.heap.size encEn 66 (joinT [⟨0, 2, 2⟩] [⟨0, 1, 8⟩])) rfl rfl rfl (by kernel_rfl) (NwSl.stable _ _ _ _) ?_ ?_
  · intro wb1 ho_wb1
    rintro _ ⟨A_15, c_15, rfl, hc_15, hv_15⟩
    rintro _ rfl
    exact And.intro rfl (Eff.callsSl w6.heap.size ho_wb1.size (Eff.fn rfl rfl Try.call24 (by rintro _ rfl; exact log1_any _ _ _ _ (hv_15.rd) (Nat.le_trans (joinT_len _ _) (by show 3 ≤ 100000; omega)))))
  refine FL.run (i := 8) [2] false (fun v_ _ => v_ = .pointer (some ⟨b3, 0, none⟩)) rfl rfl rfl (by kernel_rfl) (Stable.eq _) ?_ ?_
  · intro wb1 ho_wb1
    rintro _ rfl
    exact And.intro rfl (Eff.reads (Yield.fieldAt (k := 0) rfl rfl Try.runUnderlying41 rfl Try.sizeOf39 rfl) rfl)
  refine FL.run (i := 9) [8, 2] false (fun v_ _ => v_ = .slice (some ⟨b1, 0, none⟩) (1) (1)) rfl rfl rfl (by kernel_rfl) (Stable.eq _) ?_ ?_
  · intro wb1 ho_wb1
    rintro _ rfl
    rintro _ rfl
    have hb_b3 := ho_wb1.get hb_b3
    exact And.intro rfl (Eff.reads (Yield.load (v := .slice (some ⟨b1, 0, none⟩) (1) (1)) rfl rfl Try.isAgg39 (cell_get hb_b3 rfl)) rfl)
  refine FL.fin rfl [2, 7, 9] ?_
  intro w7 ho_w7
  rintro _ rfl
  rintro _ ⟨A_16, c_16, rfl, hc_16, hv_16⟩
  rintro _ rfl
  intro _
  show WL _ _ _ _ _ _ _ _
  replace hb_b1 := ho_w7.get hb_b1
  replace hb_b2 := ho_w7.get hb_b2
  replace hb_b3 := ho_w7.get hb_b3
  replace hb_b4 := ho_w7.get hb_b4
  replace hO := hO.ext ho_w7
  refine WL.eff _ rfl rfl (Eff.fn rfl rfl Try.call24 (by rintro _ rfl; exact log1_any _ _ 1 [⟨0, 2, 2⟩] (blk_rd (E := encEn) (l := [⟨0, 2, 2⟩]) hb_b1 rfl) (by show 1 ≤ 100000; omega))) ?_
  have hlt_b1_w7 : b1 < w7.heap.size := blk_lt hb_b1
  have hlt_b2_w7 : b2 < w7.heap.size := blk_lt hb_b2
  have hlt_b3_w7 : b3 < w7.heap.size := blk_lt hb_b3
  have hlt_b4_w7 : b4 < w7.heap.size := blk_lt hb_b4
  have hz_w7 := hO.size
  rintro _ w8 ⟨ho_w8, ⟨A_19, c_19, rfl, hc_19, hv_19⟩⟩
  replace hb_b1 := ho_w8.get hb_b1
  replace hb_b2 := ho_w8.get hb_b2
  replace hb_b3 := ho_w8.get hb_b3
  replace hb_b4 := ho_w8.get hb_b4
  replace hO := hO.ext ho_w8
  replace hv_16 := hv_16.ext ho_w8
  refine WL.eff _ rfl rfl (Eff.fn rfl rfl Try.call23 (by rintro _ rfl; exact logs_any _ _ _ _ (hv_16.rd) (Nat.le_trans (joinT_len _ _) (by show 3 ≤ 100000; omega)) _ _ _ (hv_19.rd) (by show 1 ≤ 100000; omega))) ?_
  have hlt_b1_w8 : b1 < w8.heap.size := blk_lt hb_b1
  have hlt_b2_w8 : b2 < w8.heap.size := blk_lt hb_b2
  have hlt_b3_w8 : b3 < w8.heap.size := blk_lt hb_b3
  have hlt_b4_w8 : b4 < w8.heap.size := blk_lt hb_b4
  have hz_w8 := hO.size
  rintro _ w9 ⟨ho_w9, rfl⟩
  replace hb_b1 := ho_w9.get hb_b1
  replace hb_b2 := ho_w9.get hb_b2
  replace hb_b3 := ho_w9.get hb_b3
  replace hb_b4 := ho_w9.get hb_b4
  replace hO := hO.ext ho_w9
  replace hv_16 := hv_16.ext ho_w9
  replace hv_19 := hv_19.ext ho_w9
  refine WL.yield rfl rfl rfl (Yield.pick_t rfl rfl rfl) ?_
  refine WL.yield rfl rfl rfl (Yield.assign rfl rfl) ?_
  refine WL.fin ?_
  refine Nm.code ?_
  refine W.ret_post (fun _ _ h => h) Try.results20 rfl ?_
  exact ⟨hO, bool_eq (by decide)⟩

end Go.Proofs.Ytpnoddfjklcahaa
