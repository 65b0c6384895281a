import Derived.Test.YtpnoddfjklcahaaTr7
import Derived.Test.YtpnoddfjklcahaaTr9
import Derived.Test.YtpnoddfjklcahaaIn1

set_option linter.all false
namespace Go.Proofs.Ytpnoddfjklcahaa
open Go Go.Lv Go.RowKit Go.Shoal


theorem add_any (w : World) (A : Option Addr) (c : Nat) (l : List En) (hr : Rd encEn w A l) (hlen : l.length ≤ 100000) (x : En) :
    Fc Try.prog 35 #[.agg #[.slice (A) (l.length) (c)], .agg #[.int .i64 (x.f), .int .u64 ((x.n.toNat : Int)), .int .u64 ((x.t.toNat : Int))]] w (fun v w' => Ext w w' ∧ NwLg w.heap.size encEn 51 (addT l x) v w') := by
  refine Fc.enter (args := [.agg #[.slice (A) (l.length) (c)], .agg #[.int .i64 (x.f), .int .u64 ((x.n.toNat : Int)), .int .u64 ((x.t.toNat : Int))]]) Try.func35 rfl Try.ntmps35 rfl ?_
  intro K_
  have hO : Only (fun _ => False) w w := Only.refl _ _
  refine W.seq ?_
  refine W.region ?_
  refine WL.eff _ rfl rfl (Eff.box rfl rfl) ?_
  rintro _ w1 ⟨_, b1, rfl, hs_b1, rfl, he_w1⟩
  have hb_b1 : w1.heap[b1]? = some (.cells #[.slice (A) (l.length) (c)] 41 (0, 0)) := by rw [he_w1, hs_b1]; exact new_get _ _
  have ho_w1 : Ext w w1 := by rw [he_w1]; exact Ext.alloc _ _
  clear he_w1
  have hn_b1 : w.heap.size ≤ b1 := by rw [hs_b1]; exact hO.size
  have hsz_w1 := ho_w1.size
  replace hO := hO.ext ho_w1
  refine WL.eff _ rfl rfl (Eff.box rfl rfl) ?_
  rintro _ w2 ⟨_, b2, rfl, hs_b2, rfl, he_w2⟩
  have hb_b2 : w2.heap[b2]? = some (.cells #[.int .i64 (x.f), .int .u64 ((x.n.toNat : Int)), .int .u64 ((x.t.toNat : Int))] 51 (0, 0)) := by rw [he_w2, hs_b2]; exact new_get _ _
  have ho_w2 : Ext w1 w2 := by rw [he_w2]; exact Ext.alloc _ _
  clear he_w2
  have hn_b2 : w.heap.size ≤ b2 := by rw [hs_b2]; exact hO.size
  have hq_b1_b2 : b1 < b2 := by rw [hs_b2]; exact blk_lt hb_b1
  replace hb_b1 := ho_w2.get hb_b1
  have hsz_w2 := ho_w2.size
  replace hO := hO.ext ho_w2
  refine WL.eff _ rfl rfl (Eff.alloc rfl Try.zeroValue41) ?_
  rintro _ w3 ⟨_, b3, rfl, hs_b3, rfl, he_w3⟩
  have hb_b3 : w3.heap[b3]? = some (.cells #[.slice (none) (0) (0)] 41 (0, 0)) := by rw [he_w3, hs_b3]; exact new_get _ _
  have ho_w3 : Ext w2 w3 := by rw [he_w3]; exact Ext.alloc _ _
  clear he_w3
  have hn_b3 : w.heap.size ≤ b3 := by rw [hs_b3]; exact hO.size
  have hq_b1_b3 : b1 < b3 := by rw [hs_b3]; exact blk_lt hb_b1
  have hq_b2_b3 : b2 < b3 := by rw [hs_b3]; exact blk_lt hb_b2
  replace hb_b1 := ho_w3.get hb_b1
  replace hb_b2 := ho_w3.get hb_b2
  have hsz_w3 := ho_w3.size
  replace hO := hO.ext ho_w3
  refine WL.fin ?_
  refine Nm.code ?_
  refine W.seq ?_
  refine W.region ?_
  refine WL.yield rfl rfl rfl (Yield.loadAgg (cs := [.slice (A) (l.length) (c)]) rfl rfl Try.isAgg41 Try.sizeOf41 (blk_cells hb_b1 rfl)) ?_
  refine WL.eff _ rfl rfl (Eff.fn rfl rfl Try.call68 (by rintro _ rfl; exact clone_log _ _ _ _ (hr.ext hO) hlen)) ?_
  have hlt_b1_w3 : b1 < w3.heap.size := blk_lt hb_b1
  have hlt_b2_w3 : b2 < w3.heap.size := blk_lt hb_b2
  have hlt_b3_w3 : b3 < w3.heap.size := blk_lt hb_b3
  have hz_w3 := hO.size
  rintro _ w4 ⟨ho_w4, ⟨A_8, c_8, rfl, hc_8, hv_8⟩⟩
  replace hb_b1 := ho_w4.get hb_b1
  replace hb_b2 := ho_w4.get hb_b2
  replace hb_b3 := ho_w4.get hb_b3
  have hsz_w4 := ho_w4.size
  replace hO := hO.ext ho_w4
  have hz_8 := hz_w3
  refine WL.eff _ rfl rfl (Eff.storeBlk (vs := [.slice (A_8) (l.length) (c_8)]) (cs := [.slice (A) (l.length) (c)]) (cs' := [.slice (A_8) (l.length) (c_8)]) rfl rfl rfl Try.sizeOf41 rfl (List.forall_mem_cons.2 ⟨rfl, (fun _ h => nomatch h)⟩) hb_b1 rfl rfl) ?_
  rintro _ w5 ⟨ho_w5, hb_new⟩
  replace hb_b1 := hb_new
  replace hb_b2 := ho_w5.get hb_b2 (by omega)
  replace hb_b3 := ho_w5.get hb_b3 (by omega)
  have hsz_w5 := ho_w5.size
  replace hO := hO.trans ho_w5 (by intro i hi1 hi2; first | exact hi2 | (exfalso; omega) | (left; exact hi2) | (right; exact hi2) | (right; left; exact hi2))
  replace hv_8 := hv_8.only ho_w5 (fun q hq h => absurd (show q = b1 from h) (by have := hv_8.2 q hq; omega))
  refine WL.fin ?_
  refine Nm.code ?_
  refine W.seq ?_
  refine W.seq ?_
  refine W.region ?_
  refine WL.yield rfl rfl rfl (Yield.loadAgg (cs := [.slice (A_8) (l.length) (c_8)]) rfl rfl Try.isAgg41 Try.sizeOf41 (blk_cells hb_b1 rfl)) ?_
  refine WL.eff _ rfl rfl (Eff.fn rfl rfl Try.call21 (by rintro _ rfl; exact good_any _ _ _ _ (Nw.rd hv_8) hlen)) ?_
  have hlt_b1_w5 : b1 < w5.heap.size := blk_lt hb_b1
  have hlt_b2_w5 : b2 < w5.heap.size := blk_lt hb_b2
  have hlt_b3_w5 : b3 < w5.heap.size := blk_lt hb_b3
  have hz_w5 := hO.size
  rintro _ w6 ⟨ho_w6, rfl⟩
  replace hb_b1 := ho_w6.get hb_b1
  replace hb_b2 := ho_w6.get hb_b2
  replace hb_b3 := ho_w6.get hb_b3
  have hsz_w6 := ho_w6.size
  replace hO := hO.ext ho_w6
  replace hv_8 := hv_8.ext ho_w6
  refine WL.yield rfl rfl rfl (Yield.not rfl rfl) ?_
  refine WL.yield rfl rfl rfl (Yield.move rfl rfl) ?_
  rcases Bool.eq_false_or_eq_true (!(good l)) with hgl | hgl
  · rw [hgl]
    refine WL.skip_g rfl rfl rfl ?_
    refine WL.skip_g rfl rfl rfl ?_
    refine WL.skip_g rfl rfl rfl ?_
    refine WL.yield rfl rfl rfl (Yield.pick_t rfl rfl rfl) ?_
    refine WL.fin ?_
    refine Nm.code ?_
    refine W.cond_true rfl ?_
    refine W.seq ?_
    refine W.region ?_
    refine WL.yield rfl rfl rfl (Yield.loadAgg (cs := [.slice (A_8) (l.length) (c_8)]) rfl rfl Try.isAgg41 Try.sizeOf41 (blk_cells hb_b1 rfl)) ?_
    refine WL.eff _ rfl rfl (Eff.storeBlk (vs := [.slice (A_8) (l.length) (c_8)]) (cs := [.slice (none) (0) (0)]) (cs' := [.slice (A_8) (l.length) (c_8)]) rfl rfl rfl Try.sizeOf41 rfl (List.forall_mem_cons.2 ⟨rfl, (fun _ h => nomatch h)⟩) hb_b3 rfl rfl) ?_
    rintro _ w7 ⟨ho_w7, hb_new⟩
    replace hb_b1 := ho_w7.get hb_b1 (by omega)
    replace hb_b2 := ho_w7.get hb_b2 (by omega)
    replace hb_b3 := hb_new
    have hsz_w7 := ho_w7.size
    replace hO := hO.trans ho_w7 (by intro i hi1 hi2; first | exact hi2 | (exfalso; omega) | (left; exact hi2) | (right; exact hi2) | (right; left; exact hi2))
    replace hv_8 := hv_8.only ho_w7 (fun q hq h => absurd (show q = b3 from h) (by have := hv_8.2 q hq; omega))
    refine WL.fin ?_
    refine Nm.code ?_
    refine W.ret_postW (fun _ _ h => h) Try.results35 (resW_cell rfl (loadVar_agg (cs := [.slice (A_8) (l.length) (c_8)]) Try.isAgg41 Try.sizeOf41 (blk_cells hb_b3 rfl)) resW_nil) ?_
    refine ⟨hO, ?_⟩
    first
      | (have e : addT l x = l := by (unfold addT; rw [if_neg]; simp_all)
         rw [e]; exact ⟨_, _, rfl, hc_8, hv_8.le hz_8⟩)
      | (have e : addT l x = l.set (pos l x) x := by (unfold addT; rw [if_pos (by simp_all), if_pos hthere])
         rw [e]; exact ⟨_, _, by rw [List.length_set]; rfl, by rw [List.length_set]; exact hc_8, by rw [List.length_set]; exact hv_8.le hz_8⟩)
      | (have e : addT l x = insL l (pos l x) x := by (unfold addT; rw [if_pos (by simp_all), if_neg (by simpa using hthere)])
         rw [e]; exact ⟨_, _, rfl, hc_i, hv_i.le hz_8⟩)
  · rw [hgl]
    refine WL.yield_g rfl rfl rfl (Yield.loadAgg (cs := [.int .i64 (x.f), .int .u64 ((x.n.toNat : Int)), .int .u64 ((x.t.toNat : Int))]) rfl rfl Try.isAgg51 Try.sizeOf51 (blk_cells hb_b2 rfl)) ?_
    refine WL.eff _ rfl rfl (Eff.fn rfl rfl Try.call66 (by rintro _ rfl; exact may_any _ x)) ?_
    have hlt_b1_w6 : b1 < w6.heap.size := blk_lt hb_b1
    have hlt_b2_w6 : b2 < w6.heap.size := blk_lt hb_b2
    have hlt_b3_w6 : b3 < w6.heap.size := blk_lt hb_b3
    have hz_w6 := hO.size
    rintro _ w8 ⟨ho_w8, rfl⟩
    replace hb_b1 := ho_w8.get hb_b1
    replace hb_b2 := ho_w8.get hb_b2
    replace hb_b3 := ho_w8.get hb_b3
    have hsz_w8 := ho_w8.size
    replace hO := hO.ext ho_w8
    replace hv_8 := hv_8.ext ho_w8
    refine WL.yield_g rfl rfl rfl (Yield.not rfl rfl) ?_
    refine WL.yield rfl rfl rfl (Yield.pick_f rfl rfl rfl) ?_
    refine WL.fin ?_
    refine Nm.code ?_
    refine W.cond rfl (fun hc0 => ?_) (fun hc0 => ?_)
    · refine W.seq ?_
      refine W.region ?_
      refine WL.yield rfl rfl rfl (Yield.loadAgg (cs := [.slice (A_8) (l.length) (c_8)]) rfl rfl Try.isAgg41 Try.sizeOf41 (blk_cells hb_b1 rfl)) ?_
      refine WL.eff _ rfl rfl (Eff.storeBlk (vs := [.slice (A_8) (l.length) (c_8)]) (cs := [.slice (none) (0) (0)]) (cs' := [.slice (A_8) (l.length) (c_8)]) rfl rfl rfl Try.sizeOf41 rfl (List.forall_mem_cons.2 ⟨rfl, (fun _ h => nomatch h)⟩) hb_b3 rfl rfl) ?_
      rintro _ w9 ⟨ho_w9, hb_new⟩
      replace hb_b1 := ho_w9.get hb_b1 (by omega)
      replace hb_b2 := ho_w9.get hb_b2 (by omega)
      replace hb_b3 := hb_new
      have hsz_w9 := ho_w9.size
      replace hO := hO.trans ho_w9 (by intro i hi1 hi2; first | exact hi2 | (exfalso; omega) | (left; exact hi2) | (right; exact hi2) | (right; left; exact hi2))
      replace hv_8 := hv_8.only ho_w9 (fun q hq h => absurd (show q = b3 from h) (by have := hv_8.2 q hq; omega))
      refine WL.fin ?_
      refine Nm.code ?_
      refine W.ret_postW (fun _ _ h => h) Try.results35 (resW_cell rfl (loadVar_agg (cs := [.slice (A_8) (l.length) (c_8)]) Try.isAgg41 Try.sizeOf41 (blk_cells hb_b3 rfl)) resW_nil) ?_
      refine ⟨hO, ?_⟩
      first
        | (have e : addT l x = l := by (unfold addT; rw [if_neg]; simp_all)
           rw [e]; exact ⟨_, _, rfl, hc_8, hv_8.le hz_8⟩)
        | (have e : addT l x = l.set (pos l x) x := by (unfold addT; rw [if_pos (by simp_all), if_pos hthere])
           rw [e]; exact ⟨_, _, by rw [List.length_set]; rfl, by rw [List.length_set]; exact hc_8, by rw [List.length_set]; exact hv_8.le hz_8⟩)
        | (have e : addT l x = insL l (pos l x) x := by (unfold addT; rw [if_pos (by simp_all), if_neg (by simpa using hthere)])
           rw [e]; exact ⟨_, _, rfl, hc_i, hv_i.le hz_8⟩)
    · have hgood : good l = true := by simp_all
      refine W.skipN ?_
      refine Nm.code ?_
      refine W.seq ?_
      refine W.region ?_
      refine WL.yield rfl rfl rfl (Yield.fieldAt (k := 0) rfl rfl Try.runUnderlying41 rfl Try.sizeOf39 rfl) ?_
      refine WL.yield rfl rfl rfl (Yield.load (v := .slice (A_8) (l.length) (c_8)) rfl rfl Try.isAgg39 (cell_get hb_b1 rfl)) ?_
      refine WL.yield rfl rfl rfl (Yield.loadAgg (cs := [.int .i64 (x.f), .int .u64 ((x.n.toNat : Int)), .int .u64 ((x.t.toNat : Int))]) rfl rfl Try.isAgg51 Try.sizeOf51 (blk_cells hb_b2 rfl)) ?_
      refine WL.eff _ rfl rfl (Eff.fn rfl rfl Try.call70 (by rintro _ rfl; exact bs_any _ _ _ _ (Nw.rd hv_8) hlen hgood x)) ?_
      have hlt_b1_w8 : b1 < w8.heap.size := blk_lt hb_b1
      have hlt_b2_w8 : b2 < w8.heap.size := blk_lt hb_b2
      have hlt_b3_w8 : b3 < w8.heap.size := blk_lt hb_b3
      have hz_w8 := hO.size
      rintro _ w10 ⟨ho_w10, rfl⟩
      replace hb_b1 := ho_w10.get hb_b1
      replace hb_b2 := ho_w10.get hb_b2
      replace hb_b3 := ho_w10.get hb_b3
      have hsz_w10 := ho_w10.size
      replace hO := hO.ext ho_w10
      replace hv_8 := hv_8.ext ho_w10
      refine WL.yield rfl rfl rfl (Yield.move rfl rfl) ?_
      refine WL.yield rfl rfl rfl (Yield.extract (v := .int .i64 (pos l x)) rfl rfl rfl) ?_
      refine WL.yield rfl rfl rfl (Yield.extract (v := .bool (there l x)) rfl rfl rfl) ?_
      refine WL.yield rfl rfl rfl (Yield.assign rfl rfl) ?_
      refine WL.yield rfl rfl rfl (Yield.assign rfl rfl) ?_
      refine WL.fin ?_
      refine Nm.code ?_
      refine W.seq ?_
      refine W.seq ?_
      refine W.region ?_
      refine WL.yield rfl rfl rfl (Yield.move rfl rfl) ?_
      refine WL.fin ?_
      refine Nm.code ?_
      refine W.cond rfl (fun hthere => ?_) (fun hthere => ?_)
      · obtain ⟨y, hy⟩ := there_get hthere
        have hlt_y : pos l x < l.length := (List.getElem?_eq_some_iff.1 hy).1
        obtain ⟨ad, rfl⟩ := (Nw.rd hv_8).addr hlt_y
        have hps := pos_le l x
        refine W.region ?_
        refine WL.yield rfl rfl rfl (Yield.fieldAt (k := 0) rfl rfl Try.runUnderlying41 rfl Try.sizeOf39 rfl) ?_
        refine WL.yield rfl rfl rfl (Yield.load (v := .slice (some ad) (l.length) (c_8)) rfl rfl Try.isAgg39 (cell_get hb_b1 rfl)) ?_
        refine WL.yield rfl rfl rfl (Yield.move rfl rfl) ?_
        refine WL.yield rfl rfl rfl (Yield.loadAgg (cs := [.int .i64 (x.f), .int .u64 ((x.n.toNat : Int)), .int .u64 ((x.t.toNat : Int))]) rfl rfl Try.isAgg51 Try.sizeOf51 (blk_cells hb_b2 rfl)) ?_
        refine WL.yield rfl rfl rfl (Yield.indexNat (pos l x) rfl rfl rfl Try.runUnderlying39 Try.sizeOf51 (by omega)) ?_
        refine WL.eff _ rfl rfl (Eff.setElem (E := encEn) (i := (pos l x)) (b := x) rfl rfl rfl Try.sizeOf51 rfl hv_8 (by omega)) ?_
        have hne_b1 : b1 ≠ (ad).block := fun h => by have h1 := (hv_8).2 _ rfl; omega
        have hne_b2 : b2 ≠ (ad).block := fun h => by have h1 := (hv_8).2 _ rfl; omega
        have hne_b3 : b3 ≠ (ad).block := fun h => by have h1 := (hv_8).2 _ rfl; omega
        rintro _ w11 ⟨ho_w11, hB_w11, hv_8⟩
        replace hb_b1 := ho_w11.get hb_b1 (by show ¬ (b1 = (ad).block); exact hne_b1)
        replace hb_b2 := ho_w11.get hb_b2 (by show ¬ (b2 = (ad).block); exact hne_b2)
        replace hb_b3 := ho_w11.get hb_b3 (by show ¬ (b3 = (ad).block); exact hne_b3)
        have hsz_w11 := ho_w11.size
        replace hO := hO.trans ho_w11 (by intro i hi1 hi2; first | exact hi2 | (exfalso; omega) | (left; exact hi2) | (right; exact hi2) | (right; left; exact hi2))
        refine WL.fin ?_
        refine Nm.code ?_
        refine W.seq ?_
        refine W.region ?_
        refine WL.yield rfl rfl rfl (Yield.loadAgg (cs := [.slice (some ad) (l.length) (c_8)]) rfl rfl Try.isAgg41 Try.sizeOf41 (blk_cells hb_b1 rfl)) ?_
        refine WL.eff _ rfl rfl (Eff.storeBlk (vs := [.slice (some ad) (l.length) (c_8)]) (cs := [.slice (none) (0) (0)]) (cs' := [.slice (some ad) (l.length) (c_8)]) rfl rfl rfl Try.sizeOf41 rfl (List.forall_mem_cons.2 ⟨rfl, (fun _ h => nomatch h)⟩) hb_b3 rfl rfl) ?_
        rintro _ w12 ⟨ho_w12, hb_new⟩
        replace hb_b1 := ho_w12.get hb_b1 (by omega)
        replace hb_b2 := ho_w12.get hb_b2 (by omega)
        replace hb_b3 := hb_new
        have hsz_w12 := ho_w12.size
        replace hO := hO.trans ho_w12 (by intro i hi1 hi2; first | exact hi2 | (exfalso; omega) | (left; exact hi2) | (right; exact hi2) | (right; left; exact hi2))
        replace hv_8 := hv_8.only ho_w12 (fun q hq h => absurd (show q = b3 from h) (by have := hv_8.2 q hq; omega))
        refine WL.fin ?_
        refine Nm.code ?_
        refine W.ret_postW (fun _ _ h => h) Try.results35 (resW_cell rfl (loadVar_agg (cs := [.slice (some ad) (l.length) (c_8)]) Try.isAgg41 Try.sizeOf41 (blk_cells hb_b3 rfl)) resW_nil) ?_
        refine ⟨hO, ?_⟩
        first
          | (have e : addT l x = l := by (unfold addT; rw [if_neg]; simp_all)
             rw [e]; exact ⟨_, _, rfl, hc_8, hv_8.le hz_8⟩)
          | (have e : addT l x = l.set (pos l x) x := by (unfold addT; rw [if_pos (by simp_all), if_pos hthere])
             rw [e]; exact ⟨_, _, by rw [List.length_set]; rfl, by rw [List.length_set]; exact hc_8, by rw [List.length_set]; exact hv_8.le hz_8⟩)
          | (have e : addT l x = insL l (pos l x) x := by (unfold addT; rw [if_pos (by simp_all), if_neg (by simpa using hthere)])
             rw [e]; exact ⟨_, _, rfl, hc_i, hv_i.le hz_8⟩)
      · refine W.region ?_
        refine WL.yield rfl rfl rfl (Yield.fieldAt (k := 0) rfl rfl Try.runUnderlying41 rfl Try.sizeOf39 rfl) ?_
        refine WL.yield rfl rfl rfl (Yield.load (v := .slice (A_8) (l.length) (c_8)) rfl rfl Try.isAgg39 (cell_get hb_b1 rfl)) ?_
        refine WL.yield rfl rfl rfl (Yield.move rfl rfl) ?_
        refine WL.yield rfl rfl rfl (Yield.loadAgg (cs := [.int .i64 (x.f), .int .u64 ((x.n.toNat : Int)), .int .u64 ((x.t.toNat : Int))]) rfl rfl Try.isAgg51 Try.sizeOf51 (blk_cells hb_b2 rfl)) ?_
        refine WL.eff _ rfl rfl (Eff.buildSlice (cs := [.int .i64 (x.f), .int .u64 ((x.n.toNat : Int)), .int .u64 ((x.t.toNat : Int))]) [.agg #[.int .i64 (x.f), .int .u64 ((x.n.toNat : Int)), .int .u64 ((x.t.toNat : Int))]] rfl rfl Try.runUnderlying39 Try.sizeOf51 Try.zeroValue51 rfl rfl rfl (List.forall_mem_cons.2 ⟨rfl, (fun _ h => nomatch h)⟩) rfl) ?_
        rintro _ w13 ⟨_, b4, rfl, hs_b4, rfl, he_w13⟩
        have hb_b4 : w13.heap[b4]? = some (.cells #[.int .i64 (x.f), .int .u64 ((x.n.toNat : Int)), .int .u64 ((x.t.toNat : Int))] 51 (0, 0)) := by rw [he_w13, hs_b4]; exact new_get _ _
        have ho_w13 : Ext w10 w13 := by rw [he_w13]; exact Ext.alloc _ _
        clear he_w13
        have hn_b4 : w.heap.size ≤ b4 := by rw [hs_b4]; exact hO.size
        have hl_hv_8_b4 := Nw.below hv_8 (Nat.le_of_eq hs_b4.symm)
        have hq_b1_b4 : b1 < b4 := by rw [hs_b4]; exact blk_lt hb_b1
        have hq_b2_b4 : b2 < b4 := by rw [hs_b4]; exact blk_lt hb_b2
        have hq_b3_b4 : b3 < b4 := by rw [hs_b4]; exact blk_lt hb_b3
        replace hb_b1 := ho_w13.get hb_b1
        replace hb_b2 := ho_w13.get hb_b2
        replace hb_b3 := ho_w13.get hb_b3
        have hsz_w13 := ho_w13.size
        replace hO := hO.ext ho_w13
        replace hv_8 := hv_8.ext ho_w13
        refine WL.eff _ rfl rfl (Eff.fn rfl rfl Try.call85 (by rintro _ rfl; exact ins_any _ _ _ _ _ _ rfl (by omega) hv_8 (pos l x) (pos_le l x) b4 x hb_b4 (fun h => by have h2 := hl_hv_8_b4 _ h; omega) (by omega))) ?_
        rintro _ w14 ⟨ho_w14, A_i, c_i, rfl, hc_i, hv_i⟩
        replace hb_b1 := ho_w14.get hb_b1 (fun h => by have h1 := hv_8.2 _ h; omega)
        replace hb_b2 := ho_w14.get hb_b2 (fun h => by have h1 := hv_8.2 _ h; omega)
        replace hb_b3 := ho_w14.get hb_b3 (fun h => by have h1 := hv_8.2 _ h; omega)
        replace hb_b4 := ho_w14.get hb_b4 (fun h => by have h1 := hv_8.2 _ h; have h2 := hl_hv_8_b4 _ h; omega)
        replace hO := hO.trans ho_w14 (fun i hi1 h => by have h1 := hv_8.2 _ h; omega)
        refine WL.yield rfl rfl rfl (Yield.fieldAt (k := 0) rfl rfl Try.runUnderlying41 rfl Try.sizeOf39 rfl) ?_
        refine WL.eff _ rfl rfl (Eff.storeCell (cs := [.slice (A_8) (l.length) (c_8)]) (cs' := [.slice (A_i) ((insL l (pos l x) x).length) (c_i)]) rfl rfl rfl Try.sizeOf39 rfl hb_b1 rfl rfl) ?_
        rintro _ w15 ⟨ho_w15, hb_new⟩
        replace hb_b1 := hb_new
        replace hb_b2 := ho_w15.get hb_b2 (by omega)
        replace hb_b3 := ho_w15.get hb_b3 (by omega)
        replace hb_b4 := ho_w15.get hb_b4 (by omega)
        have hsz_w15 := ho_w15.size
        replace hO := hO.trans ho_w15 (by intro i hi1 hi2; first | exact hi2 | (exfalso; omega) | (left; exact hi2) | (right; exact hi2) | (right; left; exact hi2))
        replace hv_i := hv_i.only ho_w15 (fun q hq h => absurd (show q = b1 from h) (by have := hv_i.2 q hq; omega))
        refine WL.fin ?_
        refine Nm.code ?_
        refine W.seq ?_
        refine W.region ?_
        refine WL.yield rfl rfl rfl (Yield.loadAgg (cs := [.slice (A_i) ((insL l (pos l x) x).length) (c_i)]) rfl rfl Try.isAgg41 Try.sizeOf41 (blk_cells hb_b1 rfl)) ?_
        refine WL.eff _ rfl rfl (Eff.storeBlk (vs := [.slice (A_i) ((insL l (pos l x) x).length) (c_i)]) (cs := [.slice (none) (0) (0)]) (cs' := [.slice (A_i) ((insL l (pos l x) x).length) (c_i)]) rfl rfl rfl Try.sizeOf41 rfl (List.forall_mem_cons.2 ⟨rfl, (fun _ h => nomatch h)⟩) hb_b3 rfl rfl) ?_
        rintro _ w16 ⟨ho_w16, hb_new⟩
        replace hb_b1 := ho_w16.get hb_b1 (by omega)
        replace hb_b2 := ho_w16.get hb_b2 (by omega)
        replace hb_b3 := hb_new
        replace hb_b4 := ho_w16.get hb_b4 (by omega)
        have hsz_w16 := ho_w16.size
        replace hO := hO.trans ho_w16 (by intro i hi1 hi2; first | exact hi2 | (exfalso; omega) | (left; exact hi2) | (right; exact hi2) | (right; left; exact hi2))
        replace hv_i := hv_i.only ho_w16 (fun q hq h => absurd (show q = b3 from h) (by have := hv_i.2 q hq; omega))
        refine WL.fin ?_
        refine Nm.code ?_
        refine W.ret_postW (fun _ _ h => h) Try.results35 (resW_cell rfl (loadVar_agg (cs := [.slice (A_i) ((insL l (pos l x) x).length) (c_i)]) Try.isAgg41 Try.sizeOf41 (blk_cells hb_b3 rfl)) resW_nil) ?_
        refine ⟨hO, ?_⟩
        first
          | (have e : addT l x = l := by (unfold addT; rw [if_neg]; simp_all)
             rw [e]; exact ⟨_, _, rfl, hc_8, hv_8.le hz_8⟩)
          | (have e : addT l x = l.set (pos l x) x := by (unfold addT; rw [if_pos (by simp_all), if_pos hthere])
             rw [e]; exact ⟨_, _, by rw [List.length_set]; rfl, by rw [List.length_set]; exact hc_8, by rw [List.length_set]; exact hv_8.le hz_8⟩)
          | (have e : addT l x = insL l (pos l x) x := by (unfold addT; rw [if_pos (by simp_all), if_neg (by simpa using hthere)])
             rw [e]; exact ⟨_, _, rfl, hc_i, hv_i.le hz_8⟩)

end Go.Proofs.Ytpnoddfjklcahaa
