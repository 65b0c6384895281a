import Derived.Test.YtpnoddfjklcahaaTr8
import Derived.Test.YtpnoddfjklcahaaTr10

set_option linter.all false
namespace Go.Proofs.Ytpnoddfjklcahaa
open Go Go.Lv Go.RowKit Go.Shoal


theorem bytes_law (w : World) (A : Option Addr) (c : Nat) (l : List En) (hr : Rd encEn w A l) (Ab : Option Addr) (cb : Nat) (lb : List UInt8) (hrb : Rd encB w Ab lb) (hcb : lb.length ≤ cb) :
    Fc Try.prog 8 #[.slice (A) (l.length) (c), .slice (Ab) (lb.length) (cb)] w (fun v w' => Ext w w' ∧ v = .bool true) := by
  refine Fc.enter (args := [.slice (A) (l.length) (c), .slice (Ab) (lb.length) (cb)]) Try.func8 rfl Try.ntmps8 rfl ?_
  intro K_
  have hO : Only (fun _ => False) w w := Only.refl _ _
  refine W.seq ?_
  refine W.region ?_
  refine WL.yield rfl rfl rfl (Yield.assign rfl rfl) ?_
  refine WL.fin ?_
  refine Nm.code ?_
  refine W.seq ?_
  refine W.seq ?_
  refine W.region ?_
  refine WL.eff _ rfl rfl (Eff.fn rfl rfl Try.call20 (by rintro _ rfl; exact awake18 _)) ?_
  have hz_w := hO.size
  rintro _ w1 ⟨ho_w1, rfl⟩
  replace hO := hO.ext ho_w1
  refine WL.yield rfl rfl rfl (Yield.not rfl rfl) ?_
  refine WL.fin ?_
  refine Nm.code ?_
  refine W.cond_false rfl ?_
  refine W.skipN ?_
  refine Nm.code ?_
  refine W.seq ?_
  refine W.seq ?_
  refine W.region ?_
  refine WL.yield rfl rfl rfl (Yield.move rfl rfl) ?_
  refine WL.yield rfl rfl rfl (Yield.lenSlice rfl rfl Try.runUnderlying39) ?_
  refine WL.yield rfl rfl rfl (Yield.ar (v' := .bool (decide (l.length > 40))) rfl rfl rfl rfl (bool_dec (by omega))) ?_
  refine WL.yield rfl rfl rfl (Yield.move rfl rfl) ?_
  by_cases hga : l.length > 40
  · rw [decide_eq_true hga]
    refine WL.skip_g rfl rfl rfl ?_
    refine WL.skip_g rfl rfl rfl ?_
    refine WL.skip_g rfl rfl rfl ?_
    refine WL.yield rfl rfl rfl (Yield.pick_t rfl rfl rfl) ?_
    refine WL.fin ?_
    refine Nm.code ?_
    refine W.cond_true rfl ?_
    refine W.seq ?_
    refine W.region ?_
    refine WL.yield rfl rfl rfl (Yield.assign rfl rfl) ?_
    refine WL.fin ?_
    refine Nm.code ?_
    refine W.ret_post (fun _ _ h => h) Try.results8 rfl ?_
    exact ⟨hO, rfl⟩
  · rw [decide_eq_false hga]
    refine WL.yield_g rfl rfl rfl (Yield.move rfl rfl) ?_
    refine WL.yield_g rfl rfl rfl (Yield.lenSlice rfl rfl Try.runUnderlying33) ?_
    refine WL.yield_g rfl rfl rfl (Yield.ar (v' := .bool (decide (lb.length > 400))) rfl rfl rfl rfl (bool_dec (by omega))) ?_
    refine WL.yield rfl rfl rfl (Yield.pick_f rfl rfl rfl) ?_
    refine WL.fin ?_
    refine Nm.code ?_
    refine W.cond_dec rfl (fun hgb => ?_) (fun hgb => ?_)
    · refine W.seq ?_
      refine W.region ?_
      refine WL.yield rfl rfl rfl (Yield.assign rfl rfl) ?_
      refine WL.fin ?_
      refine Nm.code ?_
      refine W.ret_post (fun _ _ h => h) Try.results8 rfl ?_
      exact ⟨hO, rfl⟩
    · refine W.skipN ?_
      refine Nm.code ?_
      refine W.seq ?_
      refine W.region ?_
      refine WL.yield rfl rfl rfl (Yield.move rfl rfl) ?_
      refine WL.eff _ rfl rfl (Eff.fn rfl rfl Try.call31 (by rintro _ rfl; exact get_log _ _ _ _ (hrb.ext hO) (by omega))) ?_
      have hz_w1 := hO.size
      rintro _ w2 ⟨ho_w2, ⟨A_24, c_24, rfl, hc_24, hv_24⟩⟩
      replace hO := hO.ext ho_w2
      refine WL.yield rfl rfl rfl (Yield.move rfl rfl) ?_
      refine WL.yield rfl rfl rfl (Yield.extract (v := .agg #[.slice (A_24) (((getP lb).getD []).length) (c_24)]) rfl rfl rfl) ?_
      refine WL.yield rfl rfl rfl (Yield.extract (v := .bool ((getP lb).isSome)) rfl rfl rfl) ?_
      refine WL.eff _ rfl rfl (Eff.alloc rfl Try.zeroValue41) ?_
      rintro _ w3 ⟨_, b1, rfl, hs_b1, rfl, he_w3⟩
      have hb_b1 : w3.heap[b1]? = some (.cells #[.slice (none) (0) (0)] 41 (0, 0)) := by rw [he_w3, hs_b1]; exact new_get _ _
      have ho_w3 : Ext w2 w3 := by rw [he_w3]; exact Ext.alloc _ _
      clear he_w3
      have hn_b1 : w.heap.size ≤ b1 := by rw [hs_b1]; exact hO.size
      have hl_hv_24_b1 := Nw.below hv_24 (Nat.le_of_eq hs_b1.symm)
      replace hO := hO.ext ho_w3
      replace hv_24 := hv_24.ext ho_w3
      refine WL.eff _ rfl rfl (Eff.storeBlk (vs := [.slice (A_24) (((getP lb).getD []).length) (c_24)]) (cs := [.slice (none) (0) (0)]) (cs' := [.slice (A_24) (((getP lb).getD []).length) (c_24)]) rfl rfl rfl Try.sizeOf41 rfl (List.forall_mem_cons.2 ⟨rfl, (fun _ h => nomatch h)⟩) hb_b1 rfl rfl) ?_
      rintro _ w4 ⟨ho_w4, hb_new⟩
      replace hb_b1 := hb_new
      replace hO := hO.trans ho_w4 (by intro i hi1 hi2; first | exact hi2 | (exfalso; omega) | (left; exact hi2) | (right; exact hi2) | (right; left; exact hi2))
      replace hv_24 := hv_24.only ho_w4 (fun q hq h => absurd (show q = b1 from h) (by have := hv_24.2 q hq; have := hl_hv_24_b1 q hq; omega))
      refine WL.yield rfl rfl rfl (Yield.assign rfl rfl) ?_
      refine WL.fin ?_
      refine Nm.code ?_
      refine W.seq ?_
      refine W.region ?_
      refine WL.yield rfl rfl rfl (Yield.move rfl rfl) ?_
      refine WL.eff _ rfl rfl (Eff.fn rfl rfl Try.call32 (by rintro _ rfl; exact rget_eq _ _ _ _ (hrb.ext hO) hcb (by omega))) ?_
      have hlt_b1_w4 : b1 < w4.heap.size := blk_lt hb_b1
      have hz_w4 := hO.size
      rintro _ w5 ⟨ho_w5, ⟨A_29, c_29, rfl, hc_29, hv_29⟩⟩
      replace hb_b1 := ho_w5.get hb_b1
      replace hO := hO.ext ho_w5
      replace hv_24 := hv_24.ext ho_w5
      refine WL.yield rfl rfl rfl (Yield.move rfl rfl) ?_
      refine WL.yield rfl rfl rfl (Yield.extract (v := .slice (A_29) (((getP lb).getD []).length) (c_29)) rfl rfl rfl) ?_
      refine WL.yield rfl rfl rfl (Yield.extract (v := .bool ((getP lb).isSome)) rfl rfl rfl) ?_
      refine WL.yield rfl rfl rfl (Yield.assign rfl rfl) ?_
      refine WL.yield rfl rfl rfl (Yield.assign rfl rfl) ?_
      refine WL.fin ?_
      refine Nm.code ?_
      refine W.seq ?_
      refine W.seq ?_
      refine W.region ?_
      refine WL.yield rfl rfl rfl (Yield.move rfl rfl) ?_
      refine WL.yield rfl rfl rfl (Yield.move rfl rfl) ?_
      refine WL.yield rfl rfl rfl (Yield.neBool rfl rfl rfl Try.underlying4) ?_
      refine WL.yield rfl rfl rfl (Yield.move rfl rfl) ?_
      have hg1 : (!((getP lb).isSome == (getP lb).isSome)) = false := by simp
      rw [hg1]
      refine WL.yield_g rfl rfl rfl (Yield.fieldAt (k := 0) rfl rfl Try.runUnderlying41 rfl Try.sizeOf39 rfl) ?_
      refine WL.yield_g rfl rfl rfl (Yield.load (v := .slice (A_24) (((getP lb).getD []).length) (c_24)) rfl rfl Try.isAgg39 (cell_get hb_b1 rfl)) ?_
      refine WL.eff _ rfl rfl (Eff.fn rfl rfl Try.call24 (by rintro _ rfl; exact log1_any _ _ _ _ hv_24.rd (Nat.le_trans (getP_len lb) (by omega)))) ?_
      have hlt_b1_w5 : b1 < w5.heap.size := blk_lt hb_b1
      have hz_w5 := hO.size
      rintro _ w6 ⟨ho_w6, ⟨A_38, c_38, rfl, hc_38, hv_38⟩⟩
      replace hb_b1 := ho_w6.get hb_b1
      replace hO := hO.ext ho_w6
      replace hv_24 := hv_24.ext ho_w6
      replace hv_29 := hv_29.ext ho_w6
      refine WL.yield_g rfl rfl rfl (Yield.move rfl rfl) ?_
      refine WL.eff _ rfl rfl (Eff.fn rfl rfl Try.call23 (by rintro _ rfl; exact Fc.valE (logs_any _ _ _ _ hv_38.rd (Nat.le_trans (getP_len lb) (by omega)) _ _ _ hv_29.rd (Nat.le_trans (getP_len lb) (by omega))) (bool_eq (decide_eq_true rfl)))) ?_
      have hlt_b1_w6 : b1 < w6.heap.size := blk_lt hb_b1
      have hz_w6 := hO.size
      rintro _ w7 ⟨ho_w7, rfl⟩
      replace hb_b1 := ho_w7.get hb_b1
      replace hO := hO.ext ho_w7
      replace hv_24 := hv_24.ext ho_w7
      replace hv_29 := hv_29.ext ho_w7
      replace hv_38 := hv_38.ext ho_w7
      refine WL.yield_g rfl rfl rfl (Yield.not rfl rfl) ?_
      refine WL.yield rfl rfl rfl (Yield.pick_f rfl rfl rfl) ?_
      refine WL.fin ?_
      refine Nm.code ?_
      refine W.cond_false rfl ?_
      refine W.skipN ?_
      refine Nm.code ?_
      refine W.seq ?_
      refine W.region ?_
      refine WL.yield rfl rfl rfl (Yield.move rfl rfl) ?_
      refine WL.yield rfl rfl rfl (Yield.build (cells := #[.slice (A) (l.length) (c)]) rfl rfl (by kernel_rfl)) ?_
      refine WL.eff _ rfl rfl (Eff.alloc rfl Try.zeroValue41) ?_
      rintro _ w8 ⟨_, b2, rfl, hs_b2, rfl, he_w8⟩
      have hb_b2 : w8.heap[b2]? = some (.cells #[.slice (none) (0) (0)] 41 (0, 0)) := by rw [he_w8, hs_b2]; exact new_get _ _
      have ho_w8 : Ext w7 w8 := by rw [he_w8]; exact Ext.alloc _ _
      clear he_w8
      have hn_b2 : w.heap.size ≤ b2 := by rw [hs_b2]; exact hO.size
      have hl_hv_24_b2 := Nw.below hv_24 (Nat.le_of_eq hs_b2.symm)
      have hl_hv_29_b2 := Nw.below hv_29 (Nat.le_of_eq hs_b2.symm)
      have hl_hv_38_b2 := Nw.below hv_38 (Nat.le_of_eq hs_b2.symm)
      have hq_b1_b2 : b1 < b2 := by rw [hs_b2]; exact blk_lt hb_b1
      replace hb_b1 := ho_w8.get hb_b1
      replace hO := hO.ext ho_w8
      replace hv_24 := hv_24.ext ho_w8
      replace hv_29 := hv_29.ext ho_w8
      replace hv_38 := hv_38.ext ho_w8
      refine WL.eff _ rfl rfl (Eff.storeBlk (vs := [.slice (A) (l.length) (c)]) (cs := [.slice (none) (0) (0)]) (cs' := [.slice (A) (l.length) (c)]) rfl rfl rfl Try.sizeOf41 rfl (List.forall_mem_cons.2 ⟨rfl, (fun _ h => nomatch h)⟩) hb_b2 rfl rfl) ?_
      rintro _ w9 ⟨ho_w9, hb_new⟩
      replace hb_b1 := ho_w9.get hb_b1 (by omega)
      replace hb_b2 := hb_new
      replace hO := hO.trans ho_w9 (by intro i hi1 hi2; first | exact hi2 | (exfalso; omega) | (left; exact hi2) | (right; exact hi2) | (right; left; exact hi2))
      replace hv_24 := hv_24.only ho_w9 (fun q hq h => absurd (show q = b2 from h) (by have := hv_24.2 q hq; have := hl_hv_24_b2 q hq; omega))
      replace hv_29 := hv_29.only ho_w9 (fun q hq h => absurd (show q = b2 from h) (by have := hv_29.2 q hq; have := hl_hv_29_b2 q hq; omega))
      replace hv_38 := hv_38.only ho_w9 (fun q hq h => absurd (show q = b2 from h) (by have := hv_38.2 q hq; have := hl_hv_38_b2 q hq; omega))
      refine WL.fin ?_
      refine Nm.code ?_
      refine W.seq ?_
      refine W.seq ?_
      refine W.region ?_
      refine WL.yield rfl rfl rfl (Yield.loadAgg (cs := [.slice (A) (l.length) (c)]) rfl rfl Try.isAgg41 Try.sizeOf41 (blk_cells hb_b2 rfl)) ?_
      refine WL.eff _ rfl rfl (Eff.fn rfl rfl Try.call21 (by rintro _ rfl; exact good_any _ _ _ _ (hr.ext hO) (by omega))) ?_
      have hlt_b1_w9 : b1 < w9.heap.size := blk_lt hb_b1
      have hlt_b2_w9 : b2 < w9.heap.size := blk_lt hb_b2
      have hz_w9 := hO.size
      rintro _ w10 ⟨ho_w10, rfl⟩
      replace hb_b1 := ho_w10.get hb_b1
      replace hb_b2 := ho_w10.get hb_b2
      replace hO := hO.ext ho_w10
      replace hv_24 := hv_24.ext ho_w10
      replace hv_29 := hv_29.ext ho_w10
      replace hv_38 := hv_38.ext ho_w10
      refine WL.yield rfl rfl rfl (Yield.not rfl rfl) ?_
      refine WL.fin ?_
      refine Nm.code ?_
      refine W.cond rfl (fun hc3 => ?_) (fun hc3 => ?_)
      · refine W.seq ?_
        refine W.region ?_
        refine WL.yield rfl rfl rfl (Yield.assign rfl rfl) ?_
        refine WL.fin ?_
        refine Nm.code ?_
        refine W.ret_post (fun _ _ h => h) Try.results8 rfl ?_
        exact ⟨hO, rfl⟩
      · have hgood : good l = true := by simpa using hc3
        refine W.skipN ?_
        refine Nm.code ?_
        refine W.seq ?_
        refine W.region ?_
        refine WL.yield rfl rfl rfl (Yield.loadAgg (cs := [.slice (A) (l.length) (c)]) rfl rfl Try.isAgg41 Try.sizeOf41 (blk_cells hb_b2 rfl)) ?_
        refine WL.eff _ rfl rfl (Eff.fn rfl rfl Try.call33 (by rintro _ rfl; exact put_log _ _ _ _ (hr.ext hO) (by omega))) ?_
        have hlt_b1_w10 : b1 < w10.heap.size := blk_lt hb_b1
        have hlt_b2_w10 : b2 < w10.heap.size := blk_lt hb_b2
        have hz_w10 := hO.size
        rintro _ w11 ⟨ho_w11, ⟨A_50, c_50, rfl, hc_50, hv_50⟩⟩
        replace hb_b1 := ho_w11.get hb_b1
        replace hb_b2 := ho_w11.get hb_b2
        replace hO := hO.ext ho_w11
        replace hv_24 := hv_24.ext ho_w11
        replace hv_29 := hv_29.ext ho_w11
        replace hv_38 := hv_38.ext ho_w11
        refine WL.eff _ rfl rfl (Eff.fn rfl rfl Try.call31 (by rintro _ rfl; exact get_put _ _ _ l hgood (by omega) hv_50.rd)) ?_
        have hlt_b1_w11 : b1 < w11.heap.size := blk_lt hb_b1
        have hlt_b2_w11 : b2 < w11.heap.size := blk_lt hb_b2
        have hz_w11 := hO.size
        rintro _ w12 ⟨ho_w12, ⟨A_51, c_51, rfl, hc_51, hv_51⟩⟩
        replace hb_b1 := ho_w12.get hb_b1
        replace hb_b2 := ho_w12.get hb_b2
        replace hO := hO.ext ho_w12
        replace hv_24 := hv_24.ext ho_w12
        replace hv_29 := hv_29.ext ho_w12
        replace hv_38 := hv_38.ext ho_w12
        replace hv_50 := hv_50.ext ho_w12
        refine WL.yield rfl rfl rfl (Yield.move rfl rfl) ?_
        refine WL.yield rfl rfl rfl (Yield.extract (v := .agg #[.slice (A_51) (l.length) (c_51)]) rfl rfl rfl) ?_
        refine WL.yield rfl rfl rfl (Yield.extract (v := .bool true) rfl rfl rfl) ?_
        refine WL.eff _ rfl rfl (Eff.alloc rfl Try.zeroValue41) ?_
        rintro _ w13 ⟨_, b3, rfl, hs_b3, rfl, he_w13⟩
        have hb_b3 : w13.heap[b3]? = some (.cells #[.slice (none) (0) (0)] 41 (0, 0)) := by rw [he_w13, hs_b3]; exact new_get _ _
        have ho_w13 : Ext w12 w13 := by rw [he_w13]; exact Ext.alloc _ _
        clear he_w13
        have hn_b3 : w.heap.size ≤ b3 := by rw [hs_b3]; exact hO.size
        have hl_hv_24_b3 := Nw.below hv_24 (Nat.le_of_eq hs_b3.symm)
        have hl_hv_29_b3 := Nw.below hv_29 (Nat.le_of_eq hs_b3.symm)
        have hl_hv_38_b3 := Nw.below hv_38 (Nat.le_of_eq hs_b3.symm)
        have hl_hv_50_b3 := Nw.below hv_50 (Nat.le_of_eq hs_b3.symm)
        have hl_hv_51_b3 := Nw.below hv_51 (Nat.le_of_eq hs_b3.symm)
        have hq_b1_b3 : b1 < b3 := by rw [hs_b3]; exact blk_lt hb_b1
        have hq_b2_b3 : b2 < b3 := by rw [hs_b3]; exact blk_lt hb_b2
        replace hb_b1 := ho_w13.get hb_b1
        replace hb_b2 := ho_w13.get hb_b2
        replace hO := hO.ext ho_w13
        replace hv_24 := hv_24.ext ho_w13
        replace hv_29 := hv_29.ext ho_w13
        replace hv_38 := hv_38.ext ho_w13
        replace hv_50 := hv_50.ext ho_w13
        replace hv_51 := hv_51.ext ho_w13
        refine WL.eff _ rfl rfl (Eff.storeBlk (vs := [.slice (A_51) (l.length) (c_51)]) (cs := [.slice (none) (0) (0)]) (cs' := [.slice (A_51) (l.length) (c_51)]) rfl rfl rfl Try.sizeOf41 rfl (List.forall_mem_cons.2 ⟨rfl, (fun _ h => nomatch h)⟩) hb_b3 rfl rfl) ?_
        rintro _ w14 ⟨ho_w14, hb_new⟩
        replace hb_b1 := ho_w14.get hb_b1 (by omega)
        replace hb_b2 := ho_w14.get hb_b2 (by omega)
        replace hb_b3 := hb_new
        replace hO := hO.trans ho_w14 (by intro i hi1 hi2; first | exact hi2 | (exfalso; omega) | (left; exact hi2) | (right; exact hi2) | (right; left; exact hi2))
        replace hv_24 := hv_24.only ho_w14 (fun q hq h => absurd (show q = b3 from h) (by have := hv_24.2 q hq; have := hl_hv_24_b3 q hq; omega))
        replace hv_29 := hv_29.only ho_w14 (fun q hq h => absurd (show q = b3 from h) (by have := hv_29.2 q hq; have := hl_hv_29_b3 q hq; omega))
        replace hv_38 := hv_38.only ho_w14 (fun q hq h => absurd (show q = b3 from h) (by have := hv_38.2 q hq; have := hl_hv_38_b3 q hq; omega))
        replace hv_50 := hv_50.only ho_w14 (fun q hq h => absurd (show q = b3 from h) (by have := hv_50.2 q hq; have := hl_hv_50_b3 q hq; omega))
        replace hv_51 := hv_51.only ho_w14 (fun q hq h => absurd (show q = b3 from h) (by have := hv_51.2 q hq; have := hl_hv_51_b3 q hq; omega))
        refine WL.yield rfl rfl rfl (Yield.assign rfl rfl) ?_
        refine WL.fin ?_
        refine Nm.code ?_
        refine W.seq ?_
        refine W.region ?_
        refine WL.yield rfl rfl rfl (Yield.move rfl rfl) ?_
        refine WL.yield rfl rfl rfl (Yield.move rfl rfl) ?_
        refine WL.yield_g rfl rfl rfl (Yield.fieldAt (k := 0) rfl rfl Try.runUnderlying41 rfl Try.sizeOf39 rfl) ?_
        refine WL.yield_g rfl rfl rfl (Yield.load (v := .slice (A_51) (l.length) (c_51)) rfl rfl Try.isAgg39 (cell_get hb_b3 rfl)) ?_
        refine WL.eff _ rfl rfl (Eff.fn rfl rfl Try.call24 (by rintro _ rfl; exact log1_any _ _ _ _ hv_51.rd (by omega))) ?_
        have hlt_b1_w14 : b1 < w14.heap.size := blk_lt hb_b1
        have hlt_b2_w14 : b2 < w14.heap.size := blk_lt hb_b2
        have hlt_b3_w14 : b3 < w14.heap.size := blk_lt hb_b3
        have hz_w14 := hO.size
        rintro _ w15 ⟨ho_w15, ⟨A_58, c_58, rfl, hc_58, hv_58⟩⟩
        replace hb_b1 := ho_w15.get hb_b1
        replace hb_b2 := ho_w15.get hb_b2
        replace hb_b3 := ho_w15.get hb_b3
        replace hO := hO.ext ho_w15
        replace hv_24 := hv_24.ext ho_w15
        replace hv_29 := hv_29.ext ho_w15
        replace hv_38 := hv_38.ext ho_w15
        replace hv_50 := hv_50.ext ho_w15
        replace hv_51 := hv_51.ext ho_w15
        refine WL.yield_g rfl rfl rfl (Yield.move rfl rfl) ?_
        refine WL.eff _ rfl rfl (Eff.fn rfl rfl Try.call24 (by rintro _ rfl; exact log1_any _ _ _ _ (hr.ext hO) (by omega))) ?_
        have hlt_b1_w15 : b1 < w15.heap.size := blk_lt hb_b1
        have hlt_b2_w15 : b2 < w15.heap.size := blk_lt hb_b2
        have hlt_b3_w15 : b3 < w15.heap.size := blk_lt hb_b3
        have hz_w15 := hO.size
        rintro _ w16 ⟨ho_w16, ⟨A_60, c_60, rfl, hc_60, hv_60⟩⟩
        replace hb_b1 := ho_w16.get hb_b1
        replace hb_b2 := ho_w16.get hb_b2
        replace hb_b3 := ho_w16.get hb_b3
        replace hO := hO.ext ho_w16
        replace hv_24 := hv_24.ext ho_w16
        replace hv_29 := hv_29.ext ho_w16
        replace hv_38 := hv_38.ext ho_w16
        replace hv_50 := hv_50.ext ho_w16
        replace hv_51 := hv_51.ext ho_w16
        replace hv_58 := hv_58.ext ho_w16
        refine WL.eff _ rfl rfl (Eff.fn rfl rfl Try.call23 (by rintro _ rfl; exact Fc.valE (logs_any _ _ _ _ hv_58.rd (by omega) _ _ _ hv_60.rd (by omega)) (bool_eq (decide_eq_true rfl)))) ?_
        have hlt_b1_w16 : b1 < w16.heap.size := blk_lt hb_b1
        have hlt_b2_w16 : b2 < w16.heap.size := blk_lt hb_b2
        have hlt_b3_w16 : b3 < w16.heap.size := blk_lt hb_b3
        have hz_w16 := hO.size
        rintro _ w17 ⟨ho_w17, rfl⟩
        replace hb_b1 := ho_w17.get hb_b1
        replace hb_b2 := ho_w17.get hb_b2
        replace hb_b3 := ho_w17.get hb_b3
        replace hO := hO.ext ho_w17
        replace hv_24 := hv_24.ext ho_w17
        replace hv_29 := hv_29.ext ho_w17
        replace hv_38 := hv_38.ext ho_w17
        replace hv_50 := hv_50.ext ho_w17
        replace hv_51 := hv_51.ext ho_w17
        replace hv_58 := hv_58.ext ho_w17
        replace hv_60 := hv_60.ext ho_w17
        refine WL.yield rfl rfl rfl (Yield.pick_t rfl rfl rfl) ?_
        refine WL.yield rfl rfl rfl (Yield.assign rfl rfl) ?_
        refine WL.fin ?_
        refine Nm.code ?_
        refine W.ret_post (fun _ _ h => h) Try.results8 rfl ?_
        exact ⟨hO, rfl⟩

end Go.Proofs.Ytpnoddfjklcahaa
