import Derived.Test.YtpnoddfjklcahaaTr8
import Derived.Test.YtpnoddfjklcahaaTr14
import Derived.Test.YtpnoddfjklcahaaLv18

set_option linter.all false
namespace Go.Proofs.Ytpnoddfjklcahaa
open Go Go.Lv Go.RowKit Go.Shoal


theorem says_law (w : World) (A : Option Addr) (c : Nat) (l : List En) (hr : Rd encEn w A l) (A2 : Option Addr) (c2 : Nat) (l2 : List En) (hr2 : Rd encEn w A2 l2) (x : En) (to : BitVec 64) (d : Int) :
    Fc Try.prog 9 #[.slice (A) (l.length) (c), .slice (A2) (l2.length) (c2), .agg #[.int .i64 (x.f), .int .u64 ((x.n.toNat : Int)), .int .u64 ((x.t.toNat : Int))], .int .u64 ((to.toNat : Int)), .int .i64 (d)] w (fun v w' => Ext w w' ∧ v = .bool true) := by
  refine Fc.enter (args := [.slice (A) (l.length) (c), .slice (A2) (l2.length) (c2), .agg #[.int .i64 (x.f), .int .u64 ((x.n.toNat : Int)), .int .u64 ((x.t.toNat : Int))], .int .u64 ((to.toNat : Int)), .int .i64 (d)]) Try.func9 rfl Try.ntmps9 rfl ?_
  intro K_
  have hO : Only (fun _ => False) w w := Only.refl _ _
  refine W.seq ?_
  refine W.region ?_
  refine WL.eff _ rfl rfl (Eff.box rfl rfl) ?_
  rintro _ w1 ⟨_, b1, rfl, hs_b1, rfl, he_w1⟩
  have hb_b1 : w1.heap[b1]? = some (.cells #[.int .i64 (x.f), .int .u64 ((x.n.toNat : Int)), .int .u64 ((x.t.toNat : Int))] 51 (0, 0)) := by rw [he_w1, hs_b1]; exact new_get _ _
  have ho_w1 : Ext w w1 := by rw [he_w1]; exact Ext.alloc _ _
  clear he_w1
  have hn_b1 : w.heap.size ≤ b1 := by rw [hs_b1]; exact hO.size
  replace hO := hO.ext ho_w1
  refine WL.yield rfl rfl rfl (Yield.assign rfl rfl) ?_
  refine WL.fin ?_
  refine Nm.code ?_
  refine W.seq ?_
  refine W.seq ?_
  refine W.region ?_
  refine WL.eff _ rfl rfl (Eff.fn rfl rfl Try.call20 (by rintro _ rfl; exact awake18 _)) ?_
  have hlt_b1_w1 : b1 < w1.heap.size := blk_lt hb_b1
  have hz_w1 := hO.size
  rintro _ w2 ⟨ho_w2, rfl⟩
  replace hb_b1 := ho_w2.get hb_b1
  replace hO := hO.ext ho_w2
  refine WL.yield rfl rfl rfl (Yield.not rfl rfl) ?_
  refine WL.fin ?_
  refine Nm.code ?_
  refine W.cond_false rfl ?_
  refine W.skipN ?_
  refine Nm.code ?_
  refine W.seq ?_
  refine W.seq ?_
  refine W.region ?_
  refine WL.yield rfl rfl rfl (Yield.move rfl rfl) ?_
  refine WL.yield rfl rfl rfl (Yield.lenSlice rfl rfl Try.runUnderlying39) ?_
  refine WL.yield rfl rfl rfl (Yield.ar (v' := .bool (decide (l.length > 40))) rfl rfl rfl rfl (bool_dec (by omega))) ?_
  refine WL.yield rfl rfl rfl (Yield.move rfl rfl) ?_
  by_cases hga : l.length > 40
  · rw [decide_eq_true hga]
    refine WL.skip_g rfl rfl rfl ?_
    refine WL.skip_g rfl rfl rfl ?_
    refine WL.skip_g rfl rfl rfl ?_
    refine WL.yield rfl rfl rfl (Yield.pick_t rfl rfl rfl) ?_
    refine WL.fin ?_
    refine Nm.code ?_
    refine W.cond_true rfl ?_
    refine W.seq ?_
    refine W.region ?_
    refine WL.yield rfl rfl rfl (Yield.assign rfl rfl) ?_
    refine WL.fin ?_
    refine Nm.code ?_
    refine W.ret_post (fun _ _ h => h) Try.results9 rfl ?_
    exact ⟨hO, rfl⟩
  · rw [decide_eq_false hga]
    refine WL.yield_g rfl rfl rfl (Yield.move rfl rfl) ?_
    refine WL.yield_g rfl rfl rfl (Yield.lenSlice rfl rfl Try.runUnderlying39) ?_
    refine WL.yield_g rfl rfl rfl (Yield.ar (v' := .bool (decide (l2.length > 40))) rfl rfl rfl rfl (bool_dec (by omega))) ?_
    refine WL.yield rfl rfl rfl (Yield.pick_f rfl rfl rfl) ?_
    refine WL.fin ?_
    refine Nm.code ?_
    refine W.cond_dec rfl (fun hc1 => ?_) (fun hc1 => ?_)
    · refine W.seq ?_
      refine W.region ?_
      refine WL.yield rfl rfl rfl (Yield.assign rfl rfl) ?_
      refine WL.fin ?_
      refine Nm.code ?_
      refine W.ret_post (fun _ _ h => h) Try.results9 rfl ?_
      exact ⟨hO, rfl⟩
    · have hlen : l.length ≤ 40 := by omega
      have hlen2 : l2.length ≤ 40 := by omega
      have hlT : (addT l x).length ≤ 100000 := by rw [addT_addR]; exact Nat.le_trans (addR_len l x) (by omega)
      have hlP : (purgeT l).length ≤ 100000 := by unfold purgeT; split; exact Nat.le_trans (purge_len l) (by omega); omega
      have hlJ : (joinT l l2).length ≤ 100000 := Nat.le_trans (joinT_len l l2) (by omega)
      refine W.skipN ?_
      refine Nm.code ?_
      refine W.seq ?_
      refine W.region ?_
      refine WL.yield rfl rfl rfl (Yield.move rfl rfl) ?_
      refine WL.yield rfl rfl rfl (Yield.build (cells := #[.slice (A) (l.length) (c)]) rfl rfl (by kernel_rfl)) ?_
      refine WL.yield rfl rfl rfl (Yield.move rfl rfl) ?_
      refine WL.yield rfl rfl rfl (Yield.build (cells := #[.slice (A2) (l2.length) (c2)]) rfl rfl (by kernel_rfl)) ?_
      refine WL.eff _ rfl rfl (Eff.alloc rfl Try.zeroValue41) ?_
      rintro _ w3 ⟨_, b2, rfl, hs_b2, rfl, he_w3⟩
      have hb_b2 : w3.heap[b2]? = some (.cells #[.slice (none) (0) (0)] 41 (0, 0)) := by rw [he_w3, hs_b2]; exact new_get _ _
      have ho_w3 : Ext w2 w3 := by rw [he_w3]; exact Ext.alloc _ _
      clear he_w3
      have hn_b2 : w.heap.size ≤ b2 := by rw [hs_b2]; exact hO.size
      have hq_b1_b2 : b1 < b2 := by rw [hs_b2]; exact blk_lt hb_b1
      replace hb_b1 := ho_w3.get hb_b1
      replace hO := hO.ext ho_w3
      refine WL.eff _ rfl rfl (Eff.alloc rfl Try.zeroValue41) ?_
      rintro _ w4 ⟨_, b3, rfl, hs_b3, rfl, he_w4⟩
      have hb_b3 : w4.heap[b3]? = some (.cells #[.slice (none) (0) (0)] 41 (0, 0)) := by rw [he_w4, hs_b3]; exact new_get _ _
      have ho_w4 : Ext w3 w4 := by rw [he_w4]; exact Ext.alloc _ _
      clear he_w4
      have hn_b3 : w.heap.size ≤ b3 := by rw [hs_b3]; exact hO.size
      have hq_b1_b3 : b1 < b3 := by rw [hs_b3]; exact blk_lt hb_b1
      have hq_b2_b3 : b2 < b3 := by rw [hs_b3]; exact blk_lt hb_b2
      replace hb_b1 := ho_w4.get hb_b1
      replace hb_b2 := ho_w4.get hb_b2
      replace hO := hO.ext ho_w4
      refine WL.eff _ rfl rfl (Eff.storeBlk (vs := [.slice (A) (l.length) (c)]) (cs := [.slice (none) (0) (0)]) (cs' := [.slice (A) (l.length) (c)]) rfl rfl rfl Try.sizeOf41 rfl (List.forall_mem_cons.2 ⟨rfl, (fun _ h => nomatch h)⟩) hb_b2 rfl rfl) ?_
      rintro _ w5 ⟨ho_w5, hb_new⟩
      replace hb_b1 := ho_w5.get hb_b1 (by omega)
      replace hb_b2 := hb_new
      replace hb_b3 := ho_w5.get hb_b3 (by omega)
      replace hO := hO.trans ho_w5 (by intro i hi1 hi2; first | exact hi2 | (exfalso; omega) | (left; exact hi2) | (right; exact hi2) | (right; left; exact hi2))
      refine WL.eff _ rfl rfl (Eff.storeBlk (vs := [.slice (A2) (l2.length) (c2)]) (cs := [.slice (none) (0) (0)]) (cs' := [.slice (A2) (l2.length) (c2)]) rfl rfl rfl Try.sizeOf41 rfl (List.forall_mem_cons.2 ⟨rfl, (fun _ h => nomatch h)⟩) hb_b3 rfl rfl) ?_
      rintro _ w6 ⟨ho_w6, hb_new⟩
      replace hb_b1 := ho_w6.get hb_b1 (by omega)
      replace hb_b2 := ho_w6.get hb_b2 (by omega)
      replace hb_b3 := hb_new
      replace hO := hO.trans ho_w6 (by intro i hi1 hi2; first | exact hi2 | (exfalso; omega) | (left; exact hi2) | (right; exact hi2) | (right; left; exact hi2))
      refine WL.fin ?_
      refine Nm.code ?_
      refine W.seq ?_
      refine W.region ?_
      refine WL.yield rfl rfl rfl (Yield.move rfl rfl) ?_
      refine WL.eff _ rfl rfl (Eff.fn rfl rfl Try.call24 (by rintro _ rfl; exact log1_any _ _ _ _ (hr.ext hO) (by omega))) ?_
      have hlt_b1_w6 : b1 < w6.heap.size := blk_lt hb_b1
      have hlt_b2_w6 : b2 < w6.heap.size := blk_lt hb_b2
      have hlt_b3_w6 : b3 < w6.heap.size := blk_lt hb_b3
      have hz_w6 := hO.size
      rintro _ w7 ⟨ho_w7, ⟨A_31, c_31, rfl, hc_31, hv_31⟩⟩
      replace hb_b1 := ho_w7.get hb_b1
      replace hb_b2 := ho_w7.get hb_b2
      replace hb_b3 := ho_w7.get hb_b3
      replace hO := hO.ext ho_w7
      refine WL.yield rfl rfl rfl (Yield.move rfl rfl) ?_
      refine WL.eff _ rfl rfl (Eff.fn rfl rfl Try.call24 (by rintro _ rfl; exact log1_any _ _ _ _ (hr2.ext hO) (by omega))) ?_
      have hlt_b1_w7 : b1 < w7.heap.size := blk_lt hb_b1
      have hlt_b2_w7 : b2 < w7.heap.size := blk_lt hb_b2
      have hlt_b3_w7 : b3 < w7.heap.size := blk_lt hb_b3
      have hz_w7 := hO.size
      rintro _ w8 ⟨ho_w8, ⟨A_33, c_33, rfl, hc_33, hv_33⟩⟩
      replace hb_b1 := ho_w8.get hb_b1
      replace hb_b2 := ho_w8.get hb_b2
      replace hb_b3 := ho_w8.get hb_b3
      replace hO := hO.ext ho_w8
      replace hv_31 := hv_31.ext ho_w8
      refine WL.yield rfl rfl rfl (Yield.assign rfl rfl) ?_
      refine WL.yield rfl rfl rfl (Yield.assign rfl rfl) ?_
      refine WL.fin ?_
      refine Nm.code ?_
      refine W.seq ?_
      refine W.region ?_
      refine WL.yield rfl rfl rfl (Yield.fieldAt (k := 0) rfl rfl Try.runUnderlying51 rfl Try.sizeOf3 rfl) ?_
      refine WL.yield rfl rfl rfl (Yield.load (v := .int .i64 (x.f)) rfl rfl Try.isAgg3 (cell_get hb_b1 rfl)) ?_
      refine WL.yield rfl rfl rfl (Yield.fieldAt (k := 1) rfl rfl Try.runUnderlying51 rfl Try.sizeOf32 rfl) ?_
      refine WL.yield rfl rfl rfl (Yield.load (v := .int .u64 ((x.n.toNat : Int))) rfl rfl Try.isAgg32 (cell_get hb_b1 rfl)) ?_
      refine WL.yield rfl rfl rfl (Yield.fieldAt (k := 2) rfl rfl Try.runUnderlying51 rfl Try.sizeOf49 rfl) ?_
      refine WL.yield rfl rfl rfl (Yield.load (v := .int .u64 ((x.t.toNat : Int))) rfl rfl Try.isAgg49 (cell_get hb_b1 rfl)) ?_
      refine WL.yield rfl rfl rfl (Yield.build (cells := #[.int .i64 (x.f), .int .u64 ((x.n.toNat : Int)), .int .u64 ((x.t.toNat : Int))]) rfl rfl (by kernel_rfl)) ?_
      refine WL.eff _ rfl rfl (Eff.alloc rfl Try.zeroValue66) ?_
      rintro _ w9 ⟨_, b4, rfl, hs_b4, rfl, he_w9⟩
      have hb_b4 : w9.heap[b4]? = some (.cells #[.int .i64 (0), .int .u64 (0), .int .u64 (0)] 66 (0, 0)) := by rw [he_w9, hs_b4]; exact new_get _ _
      have ho_w9 : Ext w8 w9 := by rw [he_w9]; exact Ext.alloc _ _
      clear he_w9
      have hn_b4 : w.heap.size ≤ b4 := by rw [hs_b4]; exact hO.size
      have hl_hv_31_b4 := Nw.below hv_31 (Nat.le_of_eq hs_b4.symm)
      have hl_hv_33_b4 := Nw.below hv_33 (Nat.le_of_eq hs_b4.symm)
      have hq_b1_b4 : b1 < b4 := by rw [hs_b4]; exact blk_lt hb_b1
      have hq_b2_b4 : b2 < b4 := by rw [hs_b4]; exact blk_lt hb_b2
      have hq_b3_b4 : b3 < b4 := by rw [hs_b4]; exact blk_lt hb_b3
      replace hb_b1 := ho_w9.get hb_b1
      replace hb_b2 := ho_w9.get hb_b2
      replace hb_b3 := ho_w9.get hb_b3
      replace hO := hO.ext ho_w9
      replace hv_31 := hv_31.ext ho_w9
      replace hv_33 := hv_33.ext ho_w9
      refine WL.eff _ rfl rfl (Eff.storeBlk (vs := [.int .i64 (x.f), .int .u64 ((x.n.toNat : Int)), .int .u64 ((x.t.toNat : Int))]) (cs := [.int .i64 (0), .int .u64 (0), .int .u64 (0)]) (cs' := [.int .i64 (x.f), .int .u64 ((x.n.toNat : Int)), .int .u64 ((x.t.toNat : Int))]) rfl rfl rfl Try.sizeOf66 rfl (List.forall_mem_cons.2 ⟨rfl, (List.forall_mem_cons.2 ⟨rfl, (List.forall_mem_cons.2 ⟨rfl, (fun _ h => nomatch h)⟩)⟩)⟩) hb_b4 rfl rfl) ?_
      rintro _ w10 ⟨ho_w10, hb_new⟩
      replace hb_b1 := ho_w10.get hb_b1 (by omega)
      replace hb_b2 := ho_w10.get hb_b2 (by omega)
      replace hb_b3 := ho_w10.get hb_b3 (by omega)
      replace hb_b4 := hb_new
      replace hO := hO.trans ho_w10 (by intro i hi1 hi2; first | exact hi2 | (exfalso; omega) | (left; exact hi2) | (right; exact hi2) | (right; left; exact hi2))
      replace hv_31 := hv_31.only ho_w10 (fun q hq h => absurd (show q = b4 from h) (by have := hv_31.2 q hq; have := hl_hv_31_b4 q hq; omega))
      replace hv_33 := hv_33.only ho_w10 (fun q hq h => absurd (show q = b4 from h) (by have := hv_33.2 q hq; have := hl_hv_33_b4 q hq; omega))
      refine WL.fin ?_
      refine Nm.code ?_
      refine W.seq ?_
      have hlt_b1_w10 : b1 < w10.heap.size := blk_lt hb_b1
      have hlt_b2_w10 : b2 < w10.heap.size := blk_lt hb_b2
      have hlt_b3_w10 : b3 < w10.heap.size := blk_lt hb_b3
      have hlt_b4_w10 : b4 < w10.heap.size := blk_lt hb_b4
      have hz_w10 := hO.size
      refine W.region_flat 67 Try_follows (by kernel_rfl) (by kernel_rfl) rfl ?_
      refine FL.run (i := 0) [] false (fun v_ _ => v_ = .agg #[.slice (A) (l.length) (c)]) rfl rfl rfl (by kernel_rfl) (Stable.eq _) ?_ ?_
      · intro wb1 ho_wb1
        have hb_b2 := ho_wb1.get hb_b2
        exact And.intro rfl (Eff.reads (Yield.loadAgg (cs := [.slice (A) (l.length) (c)]) rfl rfl Try.isAgg41 Try.sizeOf41 (blk_cells hb_b2 rfl)) rfl)
      refine FL.run (i := 1) [0] false (fun v_ _ => v_ = .bool (good l)) rfl rfl rfl (by kernel_rfl) (Stable.eq _) ?_ ?_
      · intro wb1 ho_wb1
        rintro _ rfl
        have hO := hO.ext ho_wb1
        exact And.intro rfl (Eff.calls (Eff.fn rfl rfl Try.call21 (by rintro _ rfl; exact good_any _ _ _ _ (hr.ext hO) (by omega))))
      refine FL.run (i := 2) [] false (fun v_ _ => v_ = .slice (A_31) (l.length) (c_31)) rfl rfl rfl (by kernel_rfl) (Stable.eq _) ?_ ?_
      · intro wb1 ho_wb1
        exact And.intro rfl (Eff.reads (Yield.move rfl rfl) rfl)
      refine FL.run (i := 3) [2] false (fun v_ _ => v_ = .bool (good l)) rfl rfl rfl (by kernel_rfl) (Stable.eq _) ?_ ?_
      · intro wb1 ho_wb1
        rintro _ rfl
        have hv_31 := hv_31.ext ho_wb1
        exact And.intro rfl (Eff.calls (Eff.fn rfl rfl Try.call34 (by rintro _ rfl; exact rgood_any _ _ _ _ hv_31.rd (by omega))))
      refine FL.run (i := 4) [1, 3] false (fun v_ _ => v_ = .bool true) rfl rfl rfl (by kernel_rfl) (Stable.eq _) ?_ ?_
      · intro wb1 ho_wb1
        rintro _ rfl
        rintro _ rfl
        exact And.intro rfl (Eff.reads ((Yield.eqBool rfl rfl rfl Try.underlying4).cast (v' := .bool (true)) (bool_eq (by simp))) rfl)
      refine FL.run (i := 5) [4] false (fun v_ _ => v_ = .bool true) rfl rfl rfl (by kernel_rfl) (Stable.eq _) ?_ ?_
      · intro wb1 ho_wb1
        rintro _ rfl
        exact And.intro rfl (Eff.reads (Yield.move rfl rfl) rfl)
      refine FL.run (i := 6) [5] false (fun v_ _ => v_ = .agg #[.slice (A) (l.length) (c)]) rfl rfl rfl (by kernel_rfl) (Stable.eq _) ?_ ?_
      · intro wb1 ho_wb1
        rintro _ rfl
        have hb_b2 := ho_wb1.get hb_b2
        exact And.intro rfl (Eff.reads (Yield.loadAgg (cs := [.slice (A) (l.length) (c)]) rfl rfl Try.isAgg41 Try.sizeOf41 (blk_cells hb_b2 rfl)) rfl)
      refine FL.run (i := 7) [5] false (fun v_ _ => v_ = .agg #[.int .i64 (x.f), .int .u64 ((x.n.toNat : Int)), .int .u64 ((x.t.toNat : Int))]) rfl rfl rfl (by kernel_rfl) (Stable.eq _) ?_ ?_
      · intro wb1 ho_wb1
        rintro _ rfl
        have hb_b1 := ho_wb1.get hb_b1
        exact And.intro rfl (Eff.reads (Yield.loadAgg (cs := [.int .i64 (x.f), .int .u64 ((x.n.toNat : Int)), .int .u64 ((x.t.toNat : Int))]) rfl rfl Try.isAgg51 Try.sizeOf51 (blk_cells hb_b1 rfl)) rfl)
      refine FL.run (i := 8) [6, 7, 5] true (NwLg w10.heap.size encEn 51 (addT l x)) rfl rfl rfl (by kernel_rfl) (NwLg.stable _ _ _ _) ?_ ?_
      · intro wb1 ho_wb1
        rintro _ rfl
        rintro _ rfl
        rintro _ rfl
        have hO := hO.ext ho_wb1
        exact And.intro rfl (Eff.callsLg w10.heap.size ho_wb1.size (Eff.fn rfl rfl Try.call35 (by rintro _ rfl; exact add_any _ _ _ _ (hr.ext hO) (by omega) x)))
      refine FL.run (i := 9) [8, 5] false (NwSl w10.heap.size encEn 51 (addT l x)) rfl rfl rfl (by kernel_rfl) (NwSl.stable _ _ _ _) ?_ ?_
      · intro wb1 ho_wb1
        rintro _ ⟨A_49, c_49, rfl, hc_49, hv_49⟩
        rintro _ rfl
        exact And.intro rfl (Eff.reads (Yield.field (v := .slice (A_49) ((addT l x).length) (c_49)) rfl rfl Try.runUnderlying41 rfl Try.isAgg39 rfl) ⟨_, _, rfl, hc_49, hv_49⟩)
      refine FL.run (i := 10) [9, 5] true (NwSl w10.heap.size encEn 66 (addT l x)) rfl rfl rfl (by kernel_rfl) (NwSl.stable _ _ _ _) ?_ ?_
      · intro wb1 ho_wb1
        rintro _ ⟨A_50, c_50, rfl, hc_50, hv_50⟩
        rintro _ rfl
        exact And.intro rfl (Eff.callsSl w10.heap.size ho_wb1.size (Eff.fn rfl rfl Try.call24 (by rintro _ rfl; exact log1_any _ _ _ _ hv_50.rd hlT)))
      refine FL.run (i := 11) [5] false (fun v_ _ => v_ = .slice (A_31) (l.length) (c_31)) rfl rfl rfl (by kernel_rfl) (Stable.eq _) ?_ ?_
      · intro wb1 ho_wb1
        rintro _ rfl
        exact And.intro rfl (Eff.reads (Yield.move rfl rfl) rfl)
      refine FL.run (i := 12) [5] false (fun v_ _ => v_ = .agg #[.int .i64 (x.f), .int .u64 ((x.n.toNat : Int)), .int .u64 ((x.t.toNat : Int))]) rfl rfl rfl (by kernel_rfl) (Stable.eq _) ?_ ?_
      · intro wb1 ho_wb1
        rintro _ rfl
        have hb_b4 := ho_wb1.get hb_b4
        exact And.intro rfl (Eff.reads (Yield.loadAgg (cs := [.int .i64 (x.f), .int .u64 ((x.n.toNat : Int)), .int .u64 ((x.t.toNat : Int))]) rfl rfl Try.isAgg66 Try.sizeOf66 (blk_cells hb_b4 rfl)) rfl)
      refine FL.run (i := 13) [11, 12, 5] false (Sl encEn (addR l x)) rfl rfl rfl (by kernel_rfl) (Sl.stable _ _) ?_ ?_
      · intro wb1 ho_wb1
        rintro _ rfl
        rintro _ rfl
        rintro _ rfl
        have hv_31 := hv_31.ext ho_wb1
        exact And.intro rfl (Eff.calls (Eff.fn rfl rfl Try.call36 (by rintro _ rfl; exact radd_any _ _ _ _ hv_31.rd (by omega) hc_31 x)))
      refine FL.run (i := 14) [10, 13, 5] false (fun v_ _ => v_ = .bool true) rfl rfl rfl (by kernel_rfl) (Stable.eq _) ?_ ?_
      · intro wb1 ho_wb1
        rintro _ ⟨A_51, c_51, rfl, hc_51, hv_51⟩
        rintro _ ⟨A_54, c_54, rfl, hc_54, hr_54⟩
        rintro _ rfl
        exact And.intro rfl (Eff.calls (Eff.fn rfl rfl Try.call23 (by rintro _ rfl; exact Fc.valE (logs_any _ _ _ _ hv_51.rd hlT _ _ _ hr_54 (Nat.le_trans (addR_len l x) (by omega))) (bool_eq (decide_eq_true (addT_addR l x))))))
      refine FL.run (i := 15) [5, 14] false (fun v_ _ => v_ = .bool true) rfl rfl rfl (by kernel_rfl) (Stable.eq _) ?_ ?_
      · intro wb1 ho_wb1
        rintro _ rfl
        rintro _ rfl
        exact And.intro rfl (Eff.reads (Yield.pick_t rfl rfl rfl) rfl)
      refine FL.run (i := 16) [15] false (fun v_ _ => v_ = .bool true) rfl rfl rfl (by kernel_rfl) (Stable.eq _) ?_ ?_
      · intro wb1 ho_wb1
        rintro _ rfl
        exact And.intro rfl (Eff.reads (Yield.move rfl rfl) rfl)
      refine FL.run (i := 17) [16] false (fun v_ _ => v_ = .agg #[.slice (A) (l.length) (c)]) rfl rfl rfl (by kernel_rfl) (Stable.eq _) ?_ ?_
      · intro wb1 ho_wb1
        rintro _ rfl
        have hb_b2 := ho_wb1.get hb_b2
        exact And.intro rfl (Eff.reads (Yield.loadAgg (cs := [.slice (A) (l.length) (c)]) rfl rfl Try.isAgg41 Try.sizeOf41 (blk_cells hb_b2 rfl)) rfl)
      refine FL.run (i := 18) [16] false (fun v_ _ => v_ = .int .u64 ((to.toNat : Int))) rfl rfl rfl (by kernel_rfl) (Stable.eq _) ?_ ?_
      · intro wb1 ho_wb1
        rintro _ rfl
        exact And.intro rfl (Eff.reads (Yield.move rfl rfl) rfl)
      refine FL.run (i := 19) [17, 18, 16] true (NwLg w10.heap.size encEn 51 (lessT l to)) rfl rfl rfl (by kernel_rfl) (NwLg.stable _ _ _ _) ?_ ?_
      · intro wb1 ho_wb1
        rintro _ rfl
        rintro _ rfl
        rintro _ rfl
        have hO := hO.ext ho_wb1
        exact And.intro rfl (Eff.callsLg w10.heap.size ho_wb1.size (Eff.fn rfl rfl Try.call26 (by rintro _ rfl; exact less_any _ _ _ _ (hr.ext hO) (by omega) to)))
      refine FL.run (i := 20) [19, 16] false (NwSl w10.heap.size encEn 51 (lessT l to)) rfl rfl rfl (by kernel_rfl) (NwSl.stable _ _ _ _) ?_ ?_
      · intro wb1 ho_wb1
        rintro _ ⟨A_60, c_60, rfl, hc_60, hv_60⟩
        rintro _ rfl
        exact And.intro rfl (Eff.reads (Yield.field (v := .slice (A_60) ((lessT l to).length) (c_60)) rfl rfl Try.runUnderlying41 rfl Try.isAgg39 rfl) ⟨_, _, rfl, hc_60, hv_60⟩)
      refine FL.run (i := 21) [20, 16] true (NwSl w10.heap.size encEn 66 (lessT l to)) rfl rfl rfl (by kernel_rfl) (NwSl.stable _ _ _ _) ?_ ?_
      · intro wb1 ho_wb1
        rintro _ ⟨A_61, c_61, rfl, hc_61, hv_61⟩
        rintro _ rfl
        exact And.intro rfl (Eff.callsSl w10.heap.size ho_wb1.size (Eff.fn rfl rfl Try.call24 (by rintro _ rfl; exact log1_any _ _ _ _ hv_61.rd (by rw [lessT_len]; omega))))
      refine FL.run (i := 22) [16] false (fun v_ _ => v_ = .slice (A_31) (l.length) (c_31)) rfl rfl rfl (by kernel_rfl) (Stable.eq _) ?_ ?_
      · intro wb1 ho_wb1
        rintro _ rfl
        exact And.intro rfl (Eff.reads (Yield.move rfl rfl) rfl)
      refine FL.run (i := 23) [16] false (fun v_ _ => v_ = .int .u64 ((to.toNat : Int))) rfl rfl rfl (by kernel_rfl) (Stable.eq _) ?_ ?_
      · intro wb1 ho_wb1
        rintro _ rfl
        exact And.intro rfl (Eff.reads (Yield.move rfl rfl) rfl)
      refine FL.run (i := 24) [22, 23, 16] false (Sl encEn (butR l to (-1))) rfl rfl rfl (by kernel_rfl) (Sl.stable _ _) ?_ ?_
      · intro wb1 ho_wb1
        rintro _ rfl
        rintro _ rfl
        rintro _ rfl
        have hv_31 := hv_31.ext ho_wb1
        exact And.intro rfl (Eff.calls (Eff.fn rfl rfl Try.call37 (by rintro _ rfl; exact rless_any _ _ _ _ hv_31.rd (by omega) hc_31 to)))
      refine FL.run (i := 25) [21, 24, 16] false (fun v_ _ => v_ = .bool true) rfl rfl rfl (by kernel_rfl) (Stable.eq _) ?_ ?_
      · intro wb1 ho_wb1
        rintro _ ⟨A_62, c_62, rfl, hc_62, hv_62⟩
        rintro _ ⟨A_65, c_65, rfl, hc_65, hr_65⟩
        rintro _ rfl
        exact And.intro rfl (Eff.calls (Eff.fn rfl rfl Try.call23 (by rintro _ rfl; exact Fc.valE (logs_any _ _ _ _ hv_62.rd (by rw [lessT_len]; omega) _ _ _ hr_65 (by rw [butR_len]; omega)) (bool_eq (decide_eq_true (lessT_butR l to))))))
      refine FL.run (i := 26) [16, 25] false (fun v_ _ => v_ = .bool true) rfl rfl rfl (by kernel_rfl) (Stable.eq _) ?_ ?_
      · intro wb1 ho_wb1
        rintro _ rfl
        rintro _ rfl
        exact And.intro rfl (Eff.reads (Yield.pick_t rfl rfl rfl) rfl)
      refine FL.run (i := 27) [26] false (fun v_ _ => v_ = .bool true) rfl rfl rfl (by kernel_rfl) (Stable.eq _) ?_ ?_
      · intro wb1 ho_wb1
        rintro _ rfl
        exact And.intro rfl (Eff.reads (Yield.move rfl rfl) rfl)
      refine FL.run (i := 28) [27] false (fun v_ _ => v_ = .agg #[.slice (A) (l.length) (c)]) rfl rfl rfl (by kernel_rfl) (Stable.eq _) ?_ ?_
      · intro wb1 ho_wb1
        rintro _ rfl
        have hb_b2 := ho_wb1.get hb_b2
        exact And.intro rfl (Eff.reads (Yield.loadAgg (cs := [.slice (A) (l.length) (c)]) rfl rfl Try.isAgg41 Try.sizeOf41 (blk_cells hb_b2 rfl)) rfl)
      refine FL.run (i := 29) [27] false (fun v_ _ => v_ = .int .u64 ((to.toNat : Int))) rfl rfl rfl (by kernel_rfl) (Stable.eq _) ?_ ?_
      · intro wb1 ho_wb1
        rintro _ rfl
        exact And.intro rfl (Eff.reads (Yield.move rfl rfl) rfl)
      refine FL.run (i := 30) [27] false (fun v_ _ => v_ = .int .i64 (d)) rfl rfl rfl (by kernel_rfl) (Stable.eq _) ?_ ?_
      · intro wb1 ho_wb1
        rintro _ rfl
        exact And.intro rfl (Eff.reads (Yield.move rfl rfl) rfl)
      refine FL.run (i := 31) [28, 29, 30, 27] true (NwLg w10.heap.size encEn 51 (butT l to d)) rfl rfl rfl (by kernel_rfl) (NwLg.stable _ _ _ _) ?_ ?_
      · intro wb1 ho_wb1
        rintro _ rfl
        rintro _ rfl
        rintro _ rfl
        rintro _ rfl
        have hO := hO.ext ho_wb1
        exact And.intro rfl (Eff.callsLg w10.heap.size ho_wb1.size (Eff.fn rfl rfl Try.call27 (by rintro _ rfl; exact but_any _ _ _ _ (hr.ext hO) (by omega) to d)))
      refine FL.run (i := 32) [31, 27] false (NwSl w10.heap.size encEn 51 (butT l to d)) rfl rfl rfl (by kernel_rfl) (NwSl.stable _ _ _ _) ?_ ?_
      · intro wb1 ho_wb1
        rintro _ ⟨A_72, c_72, rfl, hc_72, hv_72⟩
        rintro _ rfl
        exact And.intro rfl (Eff.reads (Yield.field (v := .slice (A_72) ((butT l to d).length) (c_72)) rfl rfl Try.runUnderlying41 rfl Try.isAgg39 rfl) ⟨_, _, rfl, hc_72, hv_72⟩)
      refine FL.run (i := 33) [32, 27] true (NwSl w10.heap.size encEn 66 (butT l to d)) rfl rfl rfl (by kernel_rfl) (NwSl.stable _ _ _ _) ?_ ?_
      · intro wb1 ho_wb1
        rintro _ ⟨A_73, c_73, rfl, hc_73, hv_73⟩
        rintro _ rfl
        exact And.intro rfl (Eff.callsSl w10.heap.size ho_wb1.size (Eff.fn rfl rfl Try.call24 (by rintro _ rfl; exact log1_any _ _ _ _ hv_73.rd (by rw [butT_butR, butR_len]; omega))))
      refine FL.run (i := 34) [27] false (fun v_ _ => v_ = .slice (A_31) (l.length) (c_31)) rfl rfl rfl (by kernel_rfl) (Stable.eq _) ?_ ?_
      · intro wb1 ho_wb1
        rintro _ rfl
        exact And.intro rfl (Eff.reads (Yield.move rfl rfl) rfl)
      refine FL.run (i := 35) [27] false (fun v_ _ => v_ = .int .u64 ((to.toNat : Int))) rfl rfl rfl (by kernel_rfl) (Stable.eq _) ?_ ?_
      · intro wb1 ho_wb1
        rintro _ rfl
        exact And.intro rfl (Eff.reads (Yield.move rfl rfl) rfl)
      refine FL.run (i := 36) [27] false (fun v_ _ => v_ = .int .i64 (d)) rfl rfl rfl (by kernel_rfl) (Stable.eq _) ?_ ?_
      · intro wb1 ho_wb1
        rintro _ rfl
        exact And.intro rfl (Eff.reads (Yield.move rfl rfl) rfl)
      refine FL.run (i := 37) [34, 35, 36, 27] false (Sl encEn (butR l to d)) rfl rfl rfl (by kernel_rfl) (Sl.stable _ _) ?_ ?_
      · intro wb1 ho_wb1
        rintro _ rfl
        rintro _ rfl
        rintro _ rfl
        rintro _ rfl
        have hv_31 := hv_31.ext ho_wb1
        exact And.intro rfl (Eff.calls (Eff.fn rfl rfl Try.call38 (by rintro _ rfl; exact rbut_any _ _ _ _ hv_31.rd (by omega) hc_31 to d)))
      refine FL.run (i := 38) [33, 37, 27] false (fun v_ _ => v_ = .bool true) rfl rfl rfl (by kernel_rfl) (Stable.eq _) ?_ ?_
      · intro wb1 ho_wb1
        rintro _ ⟨A_74, c_74, rfl, hc_74, hv_74⟩
        rintro _ ⟨A_78, c_78, rfl, hc_78, hr_78⟩
        rintro _ rfl
        exact And.intro rfl (Eff.calls (Eff.fn rfl rfl Try.call23 (by rintro _ rfl; exact Fc.valE (logs_any _ _ _ _ hv_74.rd (by rw [butT_butR, butR_len]; omega) _ _ _ hr_78 (by rw [butR_len]; omega)) (bool_eq (decide_eq_true (butT_butR l to d))))))
      refine FL.run (i := 39) [27, 38] false (fun v_ _ => v_ = .bool true) rfl rfl rfl (by kernel_rfl) (Stable.eq _) ?_ ?_
      · intro wb1 ho_wb1
        rintro _ rfl
        rintro _ rfl
        exact And.intro rfl (Eff.reads (Yield.pick_t rfl rfl rfl) rfl)
      refine FL.run (i := 40) [39] false (fun v_ _ => v_ = .bool true) rfl rfl rfl (by kernel_rfl) (Stable.eq _) ?_ ?_
      · intro wb1 ho_wb1
        rintro _ rfl
        exact And.intro rfl (Eff.reads (Yield.move rfl rfl) rfl)
      refine FL.run (i := 41) [40] false (fun v_ _ => v_ = .agg #[.slice (A) (l.length) (c)]) rfl rfl rfl (by kernel_rfl) (Stable.eq _) ?_ ?_
      · intro wb1 ho_wb1
        rintro _ rfl
        have hb_b2 := ho_wb1.get hb_b2
        exact And.intro rfl (Eff.reads (Yield.loadAgg (cs := [.slice (A) (l.length) (c)]) rfl rfl Try.isAgg41 Try.sizeOf41 (blk_cells hb_b2 rfl)) rfl)
      refine FL.run (i := 42) [41, 40] true (NwLg w10.heap.size encEn 51 (purgeT l)) rfl rfl rfl (by kernel_rfl) (NwLg.stable _ _ _ _) ?_ ?_
      · intro wb1 ho_wb1
        rintro _ rfl
        rintro _ rfl
        have hO := hO.ext ho_wb1
        exact And.intro rfl (Eff.callsLg w10.heap.size ho_wb1.size (Eff.fn rfl rfl Try.call22 (by rintro _ rfl; exact purge_any _ _ _ _ (hr.ext hO) (by omega))))
      refine FL.run (i := 43) [42, 40] false (NwSl w10.heap.size encEn 51 (purgeT l)) rfl rfl rfl (by kernel_rfl) (NwSl.stable _ _ _ _) ?_ ?_
      · intro wb1 ho_wb1
        rintro _ ⟨A_83, c_83, rfl, hc_83, hv_83⟩
        rintro _ rfl
        exact And.intro rfl (Eff.reads (Yield.field (v := .slice (A_83) ((purgeT l).length) (c_83)) rfl rfl Try.runUnderlying41 rfl Try.isAgg39 rfl) ⟨_, _, rfl, hc_83, hv_83⟩)
      refine FL.run (i := 44) [43, 40] true (NwSl w10.heap.size encEn 66 (purgeT l)) rfl rfl rfl (by kernel_rfl) (NwSl.stable _ _ _ _) ?_ ?_
      · intro wb1 ho_wb1
        rintro _ ⟨A_84, c_84, rfl, hc_84, hv_84⟩
        rintro _ rfl
        exact And.intro rfl (Eff.callsSl w10.heap.size ho_wb1.size (Eff.fn rfl rfl Try.call24 (by rintro _ rfl; exact log1_any _ _ _ _ hv_84.rd hlP)))
      refine FL.run (i := 45) [40] false (fun v_ _ => v_ = .slice (A_31) (l.length) (c_31)) rfl rfl rfl (by kernel_rfl) (Stable.eq _) ?_ ?_
      · intro wb1 ho_wb1
        rintro _ rfl
        exact And.intro rfl (Eff.reads (Yield.move rfl rfl) rfl)
      refine FL.run (i := 46) [45, 40] false (Sl encEn (purgeT l)) rfl rfl rfl (by kernel_rfl) (Sl.stable _ _) ?_ ?_
      · intro wb1 ho_wb1
        rintro _ rfl
        rintro _ rfl
        have hv_31 := hv_31.ext ho_wb1
        exact And.intro rfl (Eff.calls (Eff.fn rfl rfl Try.call39 (by rintro _ rfl; exact rpurge_any _ _ _ _ hv_31.rd (by omega) hc_31)))
      refine FL.run (i := 47) [44, 46, 40] false (fun v_ _ => v_ = .bool true) rfl rfl rfl (by kernel_rfl) (Stable.eq _) ?_ ?_
      · intro wb1 ho_wb1
        rintro _ ⟨A_85, c_85, rfl, hc_85, hv_85⟩
        rintro _ ⟨A_87, c_87, rfl, hc_87, hr_87⟩
        rintro _ rfl
        exact And.intro rfl (Eff.calls (Eff.fn rfl rfl Try.call23 (by rintro _ rfl; exact Fc.valE (logs_any _ _ _ _ hv_85.rd hlP _ _ _ hr_87 hlP) (bool_eq (decide_eq_true (rfl))))))
      refine FL.run (i := 48) [40, 47] false (fun v_ _ => v_ = .bool true) rfl rfl rfl (by kernel_rfl) (Stable.eq _) ?_ ?_
      · intro wb1 ho_wb1
        rintro _ rfl
        rintro _ rfl
        exact And.intro rfl (Eff.reads (Yield.pick_t rfl rfl rfl) rfl)
      refine FL.run (i := 49) [48] false (fun v_ _ => v_ = .bool true) rfl rfl rfl (by kernel_rfl) (Stable.eq _) ?_ ?_
      · intro wb1 ho_wb1
        rintro _ rfl
        exact And.intro rfl (Eff.reads (Yield.move rfl rfl) rfl)
      refine FL.run (i := 50) [49] false (fun v_ _ => v_ = .agg #[.slice (A) (l.length) (c)]) rfl rfl rfl (by kernel_rfl) (Stable.eq _) ?_ ?_
      · intro wb1 ho_wb1
        rintro _ rfl
        have hb_b2 := ho_wb1.get hb_b2
        exact And.intro rfl (Eff.reads (Yield.loadAgg (cs := [.slice (A) (l.length) (c)]) rfl rfl Try.isAgg41 Try.sizeOf41 (blk_cells hb_b2 rfl)) rfl)
      refine FL.run (i := 51) [49] false (fun v_ _ => v_ = .agg #[.slice (A2) (l2.length) (c2)]) rfl rfl rfl (by kernel_rfl) (Stable.eq _) ?_ ?_
      · intro wb1 ho_wb1
        rintro _ rfl
        have hb_b3 := ho_wb1.get hb_b3
        exact And.intro rfl (Eff.reads (Yield.loadAgg (cs := [.slice (A2) (l2.length) (c2)]) rfl rfl Try.isAgg41 Try.sizeOf41 (blk_cells hb_b3 rfl)) rfl)
      refine FL.run (i := 52) [50, 51, 49] true (NwLg w10.heap.size encEn 51 (joinT l l2)) rfl rfl rfl (by kernel_rfl) (NwLg.stable _ _ _ _) ?_ ?_
      · intro wb1 ho_wb1
        rintro _ rfl
        rintro _ rfl
        rintro _ rfl
        have hO := hO.ext ho_wb1
        exact And.intro rfl (Eff.callsLg w10.heap.size ho_wb1.size (Eff.fn rfl rfl Try.call25 (by rintro _ rfl; exact join_any _ _ _ _ (hr.ext hO) (by omega) _ _ _ (hr2.ext hO) (by omega))))
      refine FL.run (i := 53) [52, 49] false (NwSl w10.heap.size encEn 51 (joinT l l2)) rfl rfl rfl (by kernel_rfl) (NwSl.stable _ _ _ _) ?_ ?_
      · intro wb1 ho_wb1
        rintro _ ⟨A_93, c_93, rfl, hc_93, hv_93⟩
        rintro _ rfl
        exact And.intro rfl (Eff.reads (Yield.field (v := .slice (A_93) ((joinT l l2).length) (c_93)) rfl rfl Try.runUnderlying41 rfl Try.isAgg39 rfl) ⟨_, _, rfl, hc_93, hv_93⟩)
      refine FL.run (i := 54) [53, 49] true (NwSl w10.heap.size encEn 66 (joinT l l2)) rfl rfl rfl (by kernel_rfl) (NwSl.stable _ _ _ _) ?_ ?_
      · intro wb1 ho_wb1
        rintro _ ⟨A_94, c_94, rfl, hc_94, hv_94⟩
        rintro _ rfl
        exact And.intro rfl (Eff.callsSl w10.heap.size ho_wb1.size (Eff.fn rfl rfl Try.call24 (by rintro _ rfl; exact log1_any _ _ _ _ hv_94.rd hlJ)))
      refine FL.run (i := 55) [49] false (fun v_ _ => v_ = .slice (A_31) (l.length) (c_31)) rfl rfl rfl (by kernel_rfl) (Stable.eq _) ?_ ?_
      · intro wb1 ho_wb1
        rintro _ rfl
        exact And.intro rfl (Eff.reads (Yield.move rfl rfl) rfl)
      refine FL.run (i := 56) [49] false (fun v_ _ => v_ = .slice (A_33) (l2.length) (c_33)) rfl rfl rfl (by kernel_rfl) (Stable.eq _) ?_ ?_
      · intro wb1 ho_wb1
        rintro _ rfl
        exact And.intro rfl (Eff.reads (Yield.move rfl rfl) rfl)
      refine FL.run (i := 57) [55, 56, 49] false (Sl encEn (joinR l l2)) rfl rfl rfl (by kernel_rfl) (Sl.stable _ _) ?_ ?_
      · intro wb1 ho_wb1
        rintro _ rfl
        rintro _ rfl
        rintro _ rfl
        have hv_31 := hv_31.ext ho_wb1
        have hv_33 := hv_33.ext ho_wb1
        exact And.intro rfl (Eff.calls (Eff.fn rfl rfl Try.call40 (by rintro _ rfl; exact rjoin_any _ _ _ _ hv_31.rd (by omega) hc_31 _ _ _ hv_33.rd (by omega))))
      refine FL.run (i := 58) [54, 57, 49] false (fun v_ _ => v_ = .bool true) rfl rfl rfl (by kernel_rfl) (Stable.eq _) ?_ ?_
      · intro wb1 ho_wb1
        rintro _ ⟨A_95, c_95, rfl, hc_95, hv_95⟩
        rintro _ ⟨A_98, c_98, rfl, hc_98, hr_98⟩
        rintro _ rfl
        exact And.intro rfl (Eff.calls (Eff.fn rfl rfl Try.call23 (by rintro _ rfl; exact Fc.valE (logs_any _ _ _ _ hv_95.rd hlJ _ _ _ hr_98 (by rw [joinR_eq]; exact hlJ)) (bool_eq (decide_eq_true ((joinR_eq l l2).symm))))))
      refine FL.run (i := 59) [49, 58] false (fun v_ _ => v_ = .bool true) rfl rfl rfl (by kernel_rfl) (Stable.eq _) ?_ ?_
      · intro wb1 ho_wb1
        rintro _ rfl
        rintro _ rfl
        exact And.intro rfl (Eff.reads (Yield.pick_t rfl rfl rfl) rfl)
      refine FL.run (i := 60) [59] false (fun v_ _ => v_ = .bool true) rfl rfl rfl (by kernel_rfl) (Stable.eq _) ?_ ?_
      · intro wb1 ho_wb1
        rintro _ rfl
        exact And.intro rfl (Eff.reads (Yield.move rfl rfl) rfl)
      refine FL.run (i := 61) [60] false (fun v_ _ => v_ = .agg #[.slice (A) (l.length) (c)]) rfl rfl rfl (by kernel_rfl) (Stable.eq _) ?_ ?_
      · intro wb1 ho_wb1
        rintro _ rfl
        have hb_b2 := ho_wb1.get hb_b2
        exact And.intro rfl (Eff.reads (Yield.loadAgg (cs := [.slice (A) (l.length) (c)]) rfl rfl Try.isAgg41 Try.sizeOf41 (blk_cells hb_b2 rfl)) rfl)
      refine FL.run (i := 62) [61, 60] true (NwSl w10.heap.size encB 5 (putT l)) rfl rfl rfl (by kernel_rfl) (NwSl.stable _ _ _ _) ?_ ?_
      · intro wb1 ho_wb1
        rintro _ rfl
        rintro _ rfl
        have hO := hO.ext ho_wb1
        exact And.intro rfl (Eff.callsSl w10.heap.size ho_wb1.size (Eff.fn rfl rfl Try.call33 (by rintro _ rfl; exact put_log _ _ _ _ (hr.ext hO) (by omega))))
      refine FL.run (i := 63) [62, 60] false (fun v_ _ => v_ = .string ((⟨((putT l)).toArray⟩ : ByteArray))) rfl rfl rfl (by kernel_rfl) (Stable.eq _) ?_ ?_
      · intro wb1 ho_wb1
        rintro _ ⟨A_103, c_103, rfl, hc_103, hv_103⟩
        rintro _ rfl
        exact And.intro rfl (Eff.reads (Yield.bytesStr (bs := (putT l)) rfl rfl Try.underlying33 Try.underlying5 Try.underlying9 hv_103.rd rfl) rfl)
      refine FL.run (i := 64) [60] false (fun v_ _ => v_ = .slice (A_31) (l.length) (c_31)) rfl rfl rfl (by kernel_rfl) (Stable.eq _) ?_ ?_
      · intro wb1 ho_wb1
        rintro _ rfl
        exact And.intro rfl (Eff.reads (Yield.move rfl rfl) rfl)
      refine FL.run (i := 65) [64, 60] true (NwSl w10.heap.size encB 5 (putT l)) rfl rfl rfl (by kernel_rfl) (NwSl.stable _ _ _ _) ?_ ?_
      · intro wb1 ho_wb1
        rintro _ rfl
        rintro _ rfl
        have hv_31 := hv_31.ext ho_wb1
        exact And.intro rfl (Eff.callsSl w10.heap.size ho_wb1.size (Eff.fn rfl rfl Try.call41 (by rintro _ rfl; exact rput_log _ _ _ _ hv_31.rd (by omega))))
      refine FL.run (i := 66) [65, 60] false (fun v_ _ => v_ = .string ((⟨((putT l)).toArray⟩ : ByteArray))) rfl rfl rfl (by kernel_rfl) (Stable.eq _) ?_ ?_
      · intro wb1 ho_wb1
        rintro _ ⟨A_106, c_106, rfl, hc_106, hv_106⟩
        rintro _ rfl
        exact And.intro rfl (Eff.reads (Yield.bytesStr (bs := (putT l)) rfl rfl Try.underlying33 Try.underlying5 Try.underlying9 hv_106.rd rfl) rfl)
      refine FL.fin rfl [60, 63, 66] ?_
      intro w11 ho_w11
      rintro _ rfl
      rintro _ rfl
      rintro _ rfl
      intro _
      show WL _ _ _ _ _ _ _ _
      replace hb_b1 := ho_w11.get hb_b1
      replace hb_b2 := ho_w11.get hb_b2
      replace hb_b3 := ho_w11.get hb_b3
      replace hb_b4 := ho_w11.get hb_b4
      replace hO := hO.ext ho_w11
      replace hv_31 := hv_31.ext ho_w11
      replace hv_33 := hv_33.ext ho_w11
      refine WL.yield_g rfl rfl rfl ((Yield.eqStr rfl rfl rfl).cast (v' := .bool (true)) (bool_eq (decide_eq_true rfl))) ?_
      refine WL.yield rfl rfl rfl (Yield.pick_t rfl rfl rfl) ?_
      refine WL.yield rfl rfl rfl (Yield.assign rfl rfl) ?_
      refine WL.fin ?_
      refine Nm.code ?_
      refine W.ret_post (fun _ _ h => h) Try.results9 rfl ?_
      exact ⟨hO, rfl⟩

end Go.Proofs.Ytpnoddfjklcahaa
