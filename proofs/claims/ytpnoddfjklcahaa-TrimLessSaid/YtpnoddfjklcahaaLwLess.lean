import Derived.Test.YtpnoddfjklcahaaTr8
import Derived.Test.YtpnoddfjklcahaaDa5

set_option linter.all false
namespace Go.Proofs.Ytpnoddfjklcahaa
open Go Go.Lv Go.RowKit Go.Shoal


theorem less_law (w : World) (A : Option Addr) (c : Nat) (l : List En) (hr : Rd encEn w A l) (to : BitVec 64) (d : Int) :
    Fc Try.prog 7 #[.slice (A) (l.length) (c), .int .u64 ((to.toNat : Int)), .int .i64 (d)] w (fun v w' => Ext w w' ∧ v = .bool true) := by
  refine Fc.enter (args := [.slice (A) (l.length) (c), .int .u64 ((to.toNat : Int)), .int .i64 (d)]) Try.func7 rfl Try.ntmps7 rfl ?_
  intro K_
  have hO : Only (fun _ => False) w w := Only.refl _ _
  refine W.seq ?_
  refine W.region ?_
  refine WL.yield rfl rfl rfl (Yield.assign rfl rfl) ?_
  refine WL.fin ?_
  refine Nm.code ?_
  refine W.seq ?_
  refine W.seq ?_
  refine W.region ?_
  refine WL.eff _ rfl rfl (Eff.fn rfl rfl Try.call20 (by rintro _ rfl; exact awake18 _)) ?_
  have hz_w := hO.size
  rintro _ w1 ⟨ho_w1, rfl⟩
  replace hO := hO.ext ho_w1
  refine WL.yield rfl rfl rfl (Yield.not rfl rfl) ?_
  refine WL.fin ?_
  refine Nm.code ?_
  refine W.cond_false rfl ?_
  refine W.skipN ?_
  refine Nm.code ?_
  refine W.seq ?_
  refine W.region ?_
  refine WL.yield rfl rfl rfl (Yield.move rfl rfl) ?_
  refine WL.yield rfl rfl rfl (Yield.build (cells := #[.slice (A) (l.length) (c)]) rfl rfl (by kernel_rfl)) ?_
  refine WL.eff _ rfl rfl (Eff.alloc rfl Try.zeroValue41) ?_
  rintro _ w2 ⟨_, b1, rfl, hs_b1, rfl, he_w2⟩
  have hb_b1 : w2.heap[b1]? = some (.cells #[.slice (none) (0) (0)] 41 (0, 0)) := by rw [he_w2, hs_b1]; exact new_get _ _
  have ho_w2 : Ext w1 w2 := by rw [he_w2]; exact Ext.alloc _ _
  clear he_w2
  have hn_b1 : w.heap.size ≤ b1 := by rw [hs_b1]; exact hO.size
  replace hO := hO.ext ho_w2
  refine WL.eff _ rfl rfl (Eff.storeBlk (vs := [.slice (A) (l.length) (c)]) (cs := [.slice (none) (0) (0)]) (cs' := [.slice (A) (l.length) (c)]) rfl rfl rfl Try.sizeOf41 rfl (List.forall_mem_cons.2 ⟨rfl, (fun _ h => nomatch h)⟩) hb_b1 rfl rfl) ?_
  rintro _ w3 ⟨ho_w3, hb_new⟩
  replace hb_b1 := hb_new
  replace hO := hO.trans ho_w3 (by intro i hi1 hi2; first | exact hi2 | (exfalso; omega) | (left; exact hi2) | (right; exact hi2) | (right; left; exact hi2))
  refine WL.fin ?_
  refine Nm.code ?_
  refine W.seq ?_
  refine W.seq ?_
  refine W.region ?_
  refine WL.yield rfl rfl rfl (Yield.move rfl rfl) ?_
  refine WL.yield rfl rfl rfl (Yield.lenSlice rfl rfl Try.runUnderlying39) ?_
  refine WL.yield rfl rfl rfl (Yield.ar (v' := .bool (decide (l.length > 40))) rfl rfl rfl rfl (bool_dec (by omega))) ?_
  refine WL.yield rfl rfl rfl (Yield.move rfl rfl) ?_
  by_cases hg40 : l.length > 40
  · rw [decide_eq_true hg40]
    refine WL.skip_g rfl rfl rfl ?_
    refine WL.skip_g rfl rfl rfl ?_
    refine WL.skip_g rfl rfl rfl ?_
    refine WL.yield rfl rfl rfl (Yield.pick_t rfl rfl rfl) ?_
    refine WL.yield rfl rfl rfl (Yield.move rfl rfl) ?_
    refine WL.skip_g rfl rfl rfl ?_
    refine WL.skip_g rfl rfl rfl ?_
    refine WL.yield rfl rfl rfl (Yield.pick_t rfl rfl rfl) ?_
    refine WL.yield rfl rfl rfl (Yield.move rfl rfl) ?_
    refine WL.skip_g rfl rfl rfl ?_
    refine WL.skip_g rfl rfl rfl ?_
    refine WL.yield rfl rfl rfl (Yield.pick_t rfl rfl rfl) ?_
    refine WL.fin ?_
    refine Nm.code ?_
    refine W.cond_true rfl ?_
    refine W.seq ?_
    refine W.region ?_
    refine WL.yield rfl rfl rfl (Yield.assign rfl rfl) ?_
    refine WL.fin ?_
    refine Nm.code ?_
    refine W.ret_post (fun _ _ h => h) Try.results7 rfl ?_
    exact ⟨hO, rfl⟩
  · rw [decide_eq_false hg40]
    have hlen : l.length ≤ 100000 := by omega
    refine WL.yield_g rfl rfl rfl (Yield.loadAgg (cs := [.slice (A) (l.length) (c)]) rfl rfl Try.isAgg41 Try.sizeOf41 (blk_cells hb_b1 rfl)) ?_
    refine WL.eff _ rfl rfl (Eff.fn rfl rfl Try.call21 (by rintro _ rfl; exact good_any _ _ _ _ (hr.ext hO) hlen)) ?_
    have hlt_b1_w3 : b1 < w3.heap.size := blk_lt hb_b1
    have hz_w3 := hO.size
    rintro _ w4 ⟨ho_w4, rfl⟩
    replace hb_b1 := ho_w4.get hb_b1
    replace hO := hO.ext ho_w4
    refine WL.yield_g rfl rfl rfl (Yield.not rfl rfl) ?_
    refine WL.yield rfl rfl rfl (Yield.pick_f rfl rfl rfl) ?_
    refine WL.yield rfl rfl rfl (Yield.move rfl rfl) ?_
    rcases Bool.eq_false_or_eq_true (!(good l)) with hgg | hgg
    · rw [hgg]
      refine WL.skip_g rfl rfl rfl ?_
      refine WL.skip_g rfl rfl rfl ?_
      refine WL.yield rfl rfl rfl (Yield.pick_t rfl rfl rfl) ?_
      refine WL.yield rfl rfl rfl (Yield.move rfl rfl) ?_
      refine WL.skip_g rfl rfl rfl ?_
      refine WL.skip_g rfl rfl rfl ?_
      refine WL.yield rfl rfl rfl (Yield.pick_t rfl rfl rfl) ?_
      refine WL.fin ?_
      refine Nm.code ?_
      refine W.cond_true rfl ?_
      refine W.seq ?_
      refine W.region ?_
      refine WL.yield rfl rfl rfl (Yield.assign rfl rfl) ?_
      refine WL.fin ?_
      refine Nm.code ?_
      refine W.ret_post (fun _ _ h => h) Try.results7 rfl ?_
      exact ⟨hO, rfl⟩
    · rw [hgg]
      have hgood : good l = true := by simpa using hgg
      refine WL.yield_g rfl rfl rfl (Yield.move rfl rfl) ?_
      refine WL.yield_g rfl rfl rfl (Yield.bin rfl rfl rfl rfl) ?_
      refine WL.yield rfl rfl rfl (Yield.pick_f rfl rfl rfl) ?_
      refine WL.yield rfl rfl rfl (Yield.move rfl rfl) ?_
      by_cases hd0 : (d : Int) < 0
      · rw [decide_eq_true hd0]
        refine WL.skip_g rfl rfl rfl ?_
        refine WL.skip_g rfl rfl rfl ?_
        refine WL.yield rfl rfl rfl (Yield.pick_t rfl rfl rfl) ?_
        refine WL.fin ?_
        refine Nm.code ?_
        refine W.cond_true rfl ?_
        refine W.seq ?_
        refine W.region ?_
        refine WL.yield rfl rfl rfl (Yield.assign rfl rfl) ?_
        refine WL.fin ?_
        refine Nm.code ?_
        refine W.ret_post (fun _ _ h => h) Try.results7 rfl ?_
        exact ⟨hO, rfl⟩
      · rw [decide_eq_false hd0]
        refine WL.yield_g rfl rfl rfl (Yield.move rfl rfl) ?_
        refine WL.yield_g rfl rfl rfl (Yield.bin rfl rfl rfl rfl) ?_
        refine WL.yield rfl rfl rfl (Yield.pick_f rfl rfl rfl) ?_
        refine WL.fin ?_
        refine Nm.code ?_
        refine W.cond_dec rfl (fun hd1 => ?_) (fun hd1 => ?_)
        · refine W.seq ?_
          refine W.region ?_
          refine WL.yield rfl rfl rfl (Yield.assign rfl rfl) ?_
          refine WL.fin ?_
          refine Nm.code ?_
          refine W.ret_post (fun _ _ h => h) Try.results7 rfl ?_
          exact ⟨hO, rfl⟩
        · refine W.skipN ?_
          refine Nm.code ?_
          refine W.seq ?_
          refine W.region ?_
          refine WL.yield rfl rfl rfl (Yield.move rfl rfl) ?_
          refine WL.yield rfl rfl rfl (Yield.assign rfl rfl) ?_
          refine WL.fin ?_
          refine Nm.code ?_
          refine W.seq ?_
          have hlt_b1_w4 : b1 < w4.heap.size := blk_lt hb_b1
          have hz_w4 := hO.size
          refine W.region_flat 9 Try_follows (by kernel_rfl) (by kernel_rfl) rfl ?_
          refine FL.run (i := 0) [] false (fun v_ _ => v_ = .agg #[.slice (A) (l.length) (c)]) rfl rfl rfl (by kernel_rfl) (Stable.eq _) ?_ ?_
          · intro wb1 ho_wb1
            have hb_b1 := ho_wb1.get hb_b1
            exact And.intro rfl (Eff.reads (Yield.loadAgg (cs := [.slice (A) (l.length) (c)]) rfl rfl Try.isAgg41 Try.sizeOf41 (blk_cells hb_b1 rfl)) rfl)
          refine FL.run (i := 1) [] false (fun v_ _ => v_ = .int .u64 ((to.toNat : Int))) rfl rfl rfl (by kernel_rfl) (Stable.eq _) ?_ ?_
          · intro wb1 ho_wb1
            exact And.intro rfl (Eff.reads (Yield.move rfl rfl) rfl)
          refine FL.run (i := 2) [0, 1] true (NwLg w4.heap.size encEn 51 (l.map (lessE to))) rfl rfl rfl (by kernel_rfl) (NwLg.stable _ _ _ _) ?_ ?_
          · intro wb1 ho_wb1
            rintro _ rfl
            rintro _ rfl
            have hO := hO.ext ho_wb1
            exact And.intro rfl (Eff.callsLg w4.heap.size ho_wb1.size (Eff.fn rfl rfl Try.call26 (by rintro _ rfl; exact Fc.mono (less_any _ _ _ _ (hr.ext hO) hlen to) (fun v w' h => by rw [lessT_good hgood] at h; exact h))))
          refine FL.run (i := 3) [] false (fun v_ _ => v_ = .agg #[.slice (A) (l.length) (c)]) rfl rfl rfl (by kernel_rfl) (Stable.eq _) ?_ ?_
          · intro wb1 ho_wb1
            have hb_b1 := ho_wb1.get hb_b1
            exact And.intro rfl (Eff.reads (Yield.loadAgg (cs := [.slice (A) (l.length) (c)]) rfl rfl Try.isAgg41 Try.sizeOf41 (blk_cells hb_b1 rfl)) rfl)
          refine FL.run (i := 4) [] false (fun v_ _ => v_ = .int .u64 ((to.toNat : Int))) rfl rfl rfl (by kernel_rfl) (Stable.eq _) ?_ ?_
          · intro wb1 ho_wb1
            exact And.intro rfl (Eff.reads (Yield.move rfl rfl) rfl)
          refine FL.run (i := 5) [] false (fun v_ _ => v_ = .int .i64 (d)) rfl rfl rfl (by kernel_rfl) (Stable.eq _) ?_ ?_
          · intro wb1 ho_wb1
            exact And.intro rfl (Eff.reads (Yield.move rfl rfl) rfl)
          refine FL.run (i := 6) [3, 4, 5] true (NwLg w4.heap.size encEn 51 (l.map (lessE (to &&& ~~~ ofL [d])))) rfl rfl rfl (by kernel_rfl) (NwLg.stable _ _ _ _) ?_ ?_
          · intro wb1 ho_wb1
            rintro _ rfl
            rintro _ rfl
            rintro _ rfl
            have hO := hO.ext ho_wb1
            exact And.intro rfl (Eff.callsLg w4.heap.size ho_wb1.size (Eff.fn rfl rfl Try.call27 (by rintro _ rfl; exact Fc.mono (but_any _ _ _ _ (hr.ext hO) hlen to d) (fun v w' h => by rw [butT_good hgood] at h; exact h))))
          refine FL.run (i := 7) [] true (fun v_ w_ => ∃ b_, v_ = .pointer (some ⟨b_, 0, none⟩) ∧ w_.heap[b_]? = some (.cells #[.slice (none) (0) (0)] 41 (0, 0)) ∧ w4.heap.size ≤ b_) rfl rfl rfl (by kernel_rfl) (Stable.blk (mk := fun b_ => .pointer (some ⟨b_, 0, none⟩))) ?_ ?_
          · intro wb1 ho_wb1
            exact And.intro rfl (Eff.newPtr w4.heap.size ho_wb1.size (Eff.alloc rfl Try.zeroValue41))
          refine FL.run (i := 8) [] true (fun v_ w_ => ∃ b_, v_ = .pointer (some ⟨b_, 0, none⟩) ∧ w_.heap[b_]? = some (.cells #[.slice (none) (0) (0)] 41 (0, 0)) ∧ w4.heap.size ≤ b_) rfl rfl rfl (by kernel_rfl) (Stable.blk (mk := fun b_ => .pointer (some ⟨b_, 0, none⟩))) ?_ ?_
          · intro wb1 ho_wb1
            exact And.intro rfl (Eff.newPtr w4.heap.size ho_wb1.size (Eff.alloc rfl Try.zeroValue41))
          refine FL.fin rfl [2, 6, 7, 8] ?_
          intro w5 ho_w5
          rintro _ ⟨A_35, c_35, rfl, hc_35, hv_35⟩
          rintro _ ⟨A_39, c_39, rfl, hc_39, hv_39⟩
          rintro _ ⟨b_9, rfl, hb_b_9, hn_b_9⟩
          rintro _ ⟨b_10, rfl, hb_b_10, hn_b_10⟩
          intro hdist
          show WL _ _ _ _ _ _ _ _
          have hq_b1_b_9 : b1 < b_9 := Nat.lt_of_lt_of_le (blk_lt hb_b1) hn_b_9
          have hl_hv_35_b_9 : ∀ q, (Value.slice (A_35) ((l.map (lessE to)).length) (c_35)).ownBlock = some q → q ≠ b_9 := fun q hq h => hdist 2 7 _ _ _ _ rfl rfl rfl rfl rfl rfl rfl q (own_vblkA hq) (by rw [h]; rfl)
          have hl_hv_39_b_9 : ∀ q, (Value.slice (A_39) ((l.map (lessE (to &&& ~~~ ofL [d]))).length) (c_39)).ownBlock = some q → q ≠ b_9 := fun q hq h => hdist 6 7 _ _ _ _ rfl rfl rfl rfl rfl rfl rfl q (own_vblkA hq) (by rw [h]; rfl)
          have hq_b1_b_10 : b1 < b_10 := Nat.lt_of_lt_of_le (blk_lt hb_b1) hn_b_10
          have hq_b_9_b_10 : b_9 ≠ b_10 := fun h => hdist 7 8 _ _ _ _ rfl rfl rfl rfl rfl rfl rfl _ rfl (by rw [h]; rfl)
          have hl_hv_35_b_10 : ∀ q, (Value.slice (A_35) ((l.map (lessE to)).length) (c_35)).ownBlock = some q → q ≠ b_10 := fun q hq h => hdist 2 8 _ _ _ _ rfl rfl rfl rfl rfl rfl rfl q (own_vblkA hq) (by rw [h]; rfl)
          have hl_hv_39_b_10 : ∀ q, (Value.slice (A_39) ((l.map (lessE (to &&& ~~~ ofL [d]))).length) (c_39)).ownBlock = some q → q ≠ b_10 := fun q hq h => hdist 6 8 _ _ _ _ rfl rfl rfl rfl rfl rfl rfl q (own_vblkA hq) (by rw [h]; rfl)
          replace hb_b1 := ho_w5.get hb_b1
          replace hn_b_9 := Nat.le_trans hO.size hn_b_9
          replace hn_b_10 := Nat.le_trans hO.size hn_b_10
          replace hO := hO.ext ho_w5
          refine WL.eff _ rfl rfl (Eff.storeBlk (vs := [.slice (A_35) ((l.map (lessE to)).length) (c_35)]) (cs := [.slice (none) (0) (0)]) (cs' := [.slice (A_35) ((l.map (lessE to)).length) (c_35)]) rfl rfl rfl Try.sizeOf41 rfl (List.forall_mem_cons.2 ⟨rfl, (fun _ h => nomatch h)⟩) hb_b_9 rfl rfl) ?_
          rintro _ w6 ⟨ho_w6, hb_new⟩
          replace hb_b1 := ho_w6.get hb_b1 (by omega)
          replace hb_b_9 := hb_new
          replace hb_b_10 := ho_w6.get hb_b_10 (by omega)
          replace hO := hO.trans ho_w6 (by intro i hi1 hi2; first | exact hi2 | (exfalso; omega) | (left; exact hi2) | (right; exact hi2) | (right; left; exact hi2))
          replace hv_35 := hv_35.only ho_w6 (fun q hq h => absurd (show q = b_9 from h) (by have := hv_35.2 q hq; have := hl_hv_35_b_9 q hq; omega))
          replace hv_39 := hv_39.only ho_w6 (fun q hq h => absurd (show q = b_9 from h) (by have := hv_39.2 q hq; have := hl_hv_39_b_9 q hq; omega))
          refine WL.eff _ rfl rfl (Eff.storeBlk (vs := [.slice (A_39) ((l.map (lessE (to &&& ~~~ ofL [d]))).length) (c_39)]) (cs := [.slice (none) (0) (0)]) (cs' := [.slice (A_39) ((l.map (lessE (to &&& ~~~ ofL [d]))).length) (c_39)]) rfl rfl rfl Try.sizeOf41 rfl (List.forall_mem_cons.2 ⟨rfl, (fun _ h => nomatch h)⟩) hb_b_10 rfl rfl) ?_
          rintro _ w7 ⟨ho_w7, hb_new⟩
          replace hb_b1 := ho_w7.get hb_b1 (by omega)
          replace hb_b_9 := ho_w7.get hb_b_9 (by omega)
          replace hb_b_10 := hb_new
          replace hO := hO.trans ho_w7 (by intro i hi1 hi2; first | exact hi2 | (exfalso; omega) | (left; exact hi2) | (right; exact hi2) | (right; left; exact hi2))
          replace hv_35 := hv_35.only ho_w7 (fun q hq h => absurd (show q = b_10 from h) (by have := hv_35.2 q hq; have := hl_hv_35_b_10 q hq; omega))
          replace hv_39 := hv_39.only ho_w7 (fun q hq h => absurd (show q = b_10 from h) (by have := hv_39.2 q hq; have := hl_hv_39_b_10 q hq; omega))
          refine WL.fin ?_
          refine Nm.code ?_
          refine W.seq ?_
          refine W.seq ?_
          refine W.region ?_
          refine WL.yield rfl rfl rfl (Yield.fieldAt (k := 0) rfl rfl Try.runUnderlying41 rfl Try.sizeOf39 rfl) ?_
          refine WL.yield rfl rfl rfl (Yield.load (v := .slice (A_35) ((l.map (lessE to)).length) (c_35)) rfl rfl Try.isAgg39 (cell_get hb_b_9 rfl)) ?_
          refine WL.yield rfl rfl rfl (Yield.lenSlice rfl rfl Try.runUnderlying39) ?_
          refine WL.yield rfl rfl rfl (Yield.move rfl rfl) ?_
          refine WL.yield rfl rfl rfl (Yield.lenSlice rfl rfl Try.runUnderlying39) ?_
          refine WL.yield rfl rfl rfl (Yield.ar rfl rfl rfl rfl (bool_false (by simp))) ?_
          refine WL.yield rfl rfl rfl (Yield.move rfl rfl) ?_
          refine WL.yield_g rfl rfl rfl (Yield.fieldAt (k := 0) rfl rfl Try.runUnderlying41 rfl Try.sizeOf39 rfl) ?_
          refine WL.yield_g rfl rfl rfl (Yield.load (v := .slice (A_39) ((l.map (lessE (to &&& ~~~ ofL [d]))).length) (c_39)) rfl rfl Try.isAgg39 (cell_get hb_b_10 rfl)) ?_
          refine WL.yield_g rfl rfl rfl (Yield.lenSlice rfl rfl Try.runUnderlying39) ?_
          refine WL.yield_g rfl rfl rfl (Yield.move rfl rfl) ?_
          refine WL.yield_g rfl rfl rfl (Yield.lenSlice rfl rfl Try.runUnderlying39) ?_
          refine WL.yield_g rfl rfl rfl (Yield.ar rfl rfl rfl rfl (bool_false (by simp))) ?_
          refine WL.yield rfl rfl rfl (Yield.pick_f rfl rfl rfl) ?_
          refine WL.fin ?_
          refine Nm.code ?_
          refine W.cond_false rfl ?_
          refine W.skipN ?_
          refine Nm.code ?_
          refine W.seq ?_
          refine W.seq ?_
          refine W.region ?_
          refine WL.yield rfl rfl rfl (Yield.assign rfl rfl) ?_
          refine WL.fin ?_
          refine Nm.code ?_
          refine W.block ?_
          have hz_w7 := hO.size
          have hlt_b1_w7 : b1 < w7.heap.size := blk_lt hb_b1
          have hlt_b_9_w7 : b_9 < w7.heap.size := blk_lt hb_b_9
          have hlt_b_10_w7 : b_10 < w7.heap.size := blk_lt hb_b_10
          refine W.loop (σ := Nat) (fun i => [(0, .slice (A) (l.length) (c)), (2, .int .i64 (d)), (13, .bool false), (31, .bool (decide ((d : Int) > 15))), (8, .int .u64 ((to.toNat : Int))), (9, .pointer (some ⟨b_9, 0, none⟩)), (10, .pointer (some ⟨b_10, 0, none⟩)), (53, .bool false), (11, .int .i64 (i))]) (fun i ww => ((i ≤ l.length) ∧ Ext w7 ww)) (fun i => (l.length - i)) 0 (Env.has_cons rfl (Env.has_cons rfl (Env.has_cons rfl (Env.has_cons rfl (Env.has_cons rfl (Env.has_cons rfl (Env.has_cons rfl (Env.has_cons rfl (Env.has_cons rfl Env.has_nil))))))))) ⟨Nat.zero_le _, Ext.refl _⟩ ?_
          rintro i w8 ⟨hp, hE_lo1⟩
          have hb_b1_lo1 := hb_b1
          replace hb_b1 := Ext.get hE_lo1 hb_b1_lo1
          have hb_b_9_lo1 := hb_b_9
          replace hb_b_9 := Ext.get hE_lo1 hb_b_9_lo1
          have hb_b_10_lo1 := hb_b_10
          replace hb_b_10 := Ext.get hE_lo1 hb_b_10_lo1
          have hO_lo1 := hO
          replace hO := hO_lo1.ext hE_lo1
          have hv_35_lo1 := hv_35
          replace hv_35 := hv_35_lo1.ext hE_lo1
          have hv_39_lo1 := hv_39
          replace hv_39 := hv_39_lo1.ext hE_lo1
          refine W.seq ?_
          refine W.seq ?_
          refine W.region ?_
          refine WL.yield rfl rfl rfl (Yield.move rfl rfl) ?_
          refine WL.yield rfl rfl rfl (Yield.move rfl rfl) ?_
          refine WL.yield rfl rfl rfl (Yield.lenSlice rfl rfl Try.runUnderlying39) ?_
          refine WL.yield rfl rfl rfl (Yield.bin rfl rfl rfl rfl) ?_
          refine WL.fin ?_
          refine Nm.code ?_
          refine W.cond_dec rfl (fun hi => ?_) (fun hi => ?_)
          · have hlt_x : i < l.length := by omega
            obtain ⟨ad, rfl⟩ := hr.addr hlt_x
            obtain ⟨x, hx⟩ := getD_some hlt_x
            have hx1 : (l.map (lessE to))[i]? = some (lessE to x) := by simp [hx]
            obtain ⟨ad1, rfl⟩ := (hv_35.rd).addr (List.getElem?_eq_some_iff.1 hx1).1
            have hx2 : (l.map (lessE (to &&& ~~~ ofL [d])))[i]? = some (lessE (to &&& ~~~ ofL [d]) x) := by simp [hx]
            obtain ⟨ad2, rfl⟩ := (hv_39.rd).addr (List.getElem?_eq_some_iff.1 hx2).1
            refine W.skipN ?_
            refine Nm.code ?_
            refine W.seq ?_
            refine W.block ?_
            refine W.seq ?_
            have hlt_b1_w8 : b1 < w8.heap.size := blk_lt hb_b1
            have hlt_b_9_w8 : b_9 < w8.heap.size := blk_lt hb_b_9
            have hlt_b_10_w8 : b_10 < w8.heap.size := blk_lt hb_b_10
            have hz_w8 := hO.size
            refine W.region_flat 54 Try_follows (by kernel_rfl) (by kernel_rfl) rfl ?_
            refine FL.run (i := 0) [] false (fun v_ _ => v_ = .pointer (some ⟨b_9, 0, none⟩)) rfl rfl rfl (by kernel_rfl) (Stable.eq _) ?_ ?_
            · intro wb2 ho_wb2
              exact And.intro rfl (Eff.reads (Yield.fieldAt (k := 0) rfl rfl Try.runUnderlying41 rfl Try.sizeOf39 rfl) rfl)
            refine FL.run (i := 1) [0] false (fun v_ _ => v_ = .slice (some ad1) ((l.map (lessE to)).length) (c_35)) rfl rfl rfl (by kernel_rfl) (Stable.eq _) ?_ ?_
            · intro wb2 ho_wb2
              rintro _ rfl
              have hb_b_9 := ho_wb2.get hb_b_9
              exact And.intro rfl (Eff.reads (Yield.load (v := .slice (some ad1) ((l.map (lessE to)).length) (c_35)) rfl rfl Try.isAgg39 (cell_get hb_b_9 rfl)) rfl)
            refine FL.run (i := 2) [] false (fun v_ _ => v_ = .int .i64 (i)) rfl rfl rfl (by kernel_rfl) (Stable.eq _) ?_ ?_
            · intro wb2 ho_wb2
              exact And.intro rfl (Eff.reads (Yield.move rfl rfl) rfl)
            refine FL.run (i := 3) [1, 2] false (fun v_ _ => v_ = .pointer (some ((ad1).add (i * 3)))) rfl rfl rfl (by kernel_rfl) (Stable.eq _) ?_ ?_
            · intro wb2 ho_wb2
              rintro _ rfl
              rintro _ rfl
              exact And.intro rfl (Eff.reads (Yield.indexNat i rfl rfl rfl Try.runUnderlying39 Try.sizeOf51 (by rw [List.length_map]; omega)) rfl)
            refine FL.run (i := 4) [3] false (fun v_ _ => v_ = .pointer (some (((ad1).add (i * 3)).add 2))) rfl rfl rfl (by kernel_rfl) (Stable.eq _) ?_ ?_
            · intro wb2 ho_wb2
              rintro _ rfl
              exact And.intro rfl (Eff.reads (Yield.fieldAddr rfl rfl Try.runUnderlying51 rfl Try.sizeOf49) rfl)
            refine FL.run (i := 5) [4] false (fun v_ _ => v_ = .int .u64 (((lessE to x).t.toNat : Int))) rfl rfl rfl (by kernel_rfl) (Stable.eq _) ?_ ?_
            · intro wb2 ho_wb2
              rintro _ rfl
              have hv_35 := hv_35.ext ho_wb2
              exact And.intro rfl (Eff.reads (Yield.load (v := .int .u64 (((lessE to x).t.toNat : Int))) rfl rfl Try.isAgg49 (Rd.at (hv_35.rd) hx1 2 _ rfl)) rfl)
            refine FL.run (i := 6) [] false (fun v_ _ => v_ = .int .u64 ((to.toNat : Int))) rfl rfl rfl (by kernel_rfl) (Stable.eq _) ?_ ?_
            · intro wb2 ho_wb2
              exact And.intro rfl (Eff.reads (Yield.move rfl rfl) rfl)
            refine FL.run (i := 7) [5, 6] false (fun v_ _ => v_ = .int .u64 ((((lessE to x).t &&& to).toNat : Int))) rfl rfl rfl (by kernel_rfl) (Stable.eq _) ?_ ?_
            · intro wb2 ho_wb2
              rintro _ rfl
              rintro _ rfl
              exact And.intro rfl (Eff.reads (Yield.ar (v' := .int .u64 ((((lessE to x).t &&& to).toNat : Int))) rfl rfl rfl rfl (int_eq (bv_and _ _))) rfl)
            refine FL.run (i := 8) [7] false (fun v_ _ => v_ = .bool false) rfl rfl rfl (by kernel_rfl) (Stable.eq _) ?_ ?_
            · intro wb2 ho_wb2
              rintro _ rfl
              exact And.intro rfl (Eff.reads (Yield.ar rfl rfl rfl rfl (bool_false (fun h => h ((bv_zero _).2 (less_and x to))))) rfl)
            refine FL.run (i := 9) [8] false (fun v_ _ => v_ = .bool false) rfl rfl rfl (by kernel_rfl) (Stable.eq _) ?_ ?_
            · intro wb2 ho_wb2
              rintro _ rfl
              exact And.intro rfl (Eff.reads (Yield.move rfl rfl) rfl)
            refine FL.run (i := 10) [9] false (fun v_ _ => v_ = .pointer (some ⟨b_10, 0, none⟩)) rfl rfl rfl (by kernel_rfl) (Stable.eq _) ?_ ?_
            · intro wb2 ho_wb2
              rintro _ rfl
              exact And.intro rfl (Eff.reads (Yield.fieldAt (k := 0) rfl rfl Try.runUnderlying41 rfl Try.sizeOf39 rfl) rfl)
            refine FL.run (i := 11) [10, 9] false (fun v_ _ => v_ = .slice (some ad2) ((l.map (lessE (to &&& ~~~ ofL [d]))).length) (c_39)) rfl rfl rfl (by kernel_rfl) (Stable.eq _) ?_ ?_
            · intro wb2 ho_wb2
              rintro _ rfl
              rintro _ rfl
              have hb_b_10 := ho_wb2.get hb_b_10
              exact And.intro rfl (Eff.reads (Yield.load (v := .slice (some ad2) ((l.map (lessE (to &&& ~~~ ofL [d]))).length) (c_39)) rfl rfl Try.isAgg39 (cell_get hb_b_10 rfl)) rfl)
            refine FL.run (i := 12) [9] false (fun v_ _ => v_ = .int .i64 (i)) rfl rfl rfl (by kernel_rfl) (Stable.eq _) ?_ ?_
            · intro wb2 ho_wb2
              rintro _ rfl
              exact And.intro rfl (Eff.reads (Yield.move rfl rfl) rfl)
            refine FL.run (i := 13) [11, 12, 9] false (fun v_ _ => v_ = .pointer (some ((ad2).add (i * 3)))) rfl rfl rfl (by kernel_rfl) (Stable.eq _) ?_ ?_
            · intro wb2 ho_wb2
              rintro _ rfl
              rintro _ rfl
              rintro _ rfl
              exact And.intro rfl (Eff.reads (Yield.indexNat i rfl rfl rfl Try.runUnderlying39 Try.sizeOf51 (by rw [List.length_map]; omega)) rfl)
            refine FL.run (i := 14) [13, 9] false (fun v_ _ => v_ = .pointer (some (((ad2).add (i * 3)).add 2))) rfl rfl rfl (by kernel_rfl) (Stable.eq _) ?_ ?_
            · intro wb2 ho_wb2
              rintro _ rfl
              rintro _ rfl
              exact And.intro rfl (Eff.reads (Yield.fieldAddr rfl rfl Try.runUnderlying51 rfl Try.sizeOf49) rfl)
            refine FL.run (i := 15) [14, 9] false (fun v_ _ => v_ = .int .u64 (((lessE (to &&& ~~~ ofL [d]) x).t.toNat : Int))) rfl rfl rfl (by kernel_rfl) (Stable.eq _) ?_ ?_
            · intro wb2 ho_wb2
              rintro _ rfl
              rintro _ rfl
              have hv_39 := hv_39.ext ho_wb2
              exact And.intro rfl (Eff.reads (Yield.load (v := .int .u64 (((lessE (to &&& ~~~ ofL [d]) x).t.toNat : Int))) rfl rfl Try.isAgg49 (Rd.at (hv_39.rd) hx2 2 _ rfl)) rfl)
            refine FL.run (i := 16) [9] false (fun v_ _ => v_ = .int .u64 ((to.toNat : Int))) rfl rfl rfl (by kernel_rfl) (Stable.eq _) ?_ ?_
            · intro wb2 ho_wb2
              rintro _ rfl
              exact And.intro rfl (Eff.reads (Yield.move rfl rfl) rfl)
            refine FL.run (i := 17) [15, 16, 9] false (fun v_ _ => v_ = .int .u64 ((((lessE (to &&& ~~~ ofL [d]) x).t &&& to).toNat : Int))) rfl rfl rfl (by kernel_rfl) (Stable.eq _) ?_ ?_
            · intro wb2 ho_wb2
              rintro _ rfl
              rintro _ rfl
              rintro _ rfl
              exact And.intro rfl (Eff.reads (Yield.ar (v' := .int .u64 ((((lessE (to &&& ~~~ ofL [d]) x).t &&& to).toNat : Int))) rfl rfl rfl rfl (int_eq (bv_and _ _))) rfl)
            refine FL.run (i := 18) [9] false (fun v_ _ => v_ = .int .i64 (d)) rfl rfl rfl (by kernel_rfl) (Stable.eq _) ?_ ?_
            · intro wb2 ho_wb2
              rintro _ rfl
              exact And.intro rfl (Eff.reads (Yield.move rfl rfl) rfl)
            refine FL.run (i := 19) [18, 9] true (fun v_ w_ => ∃ b_, v_ = .slice (some ⟨b_, 0, none⟩) (1) (1) ∧ w_.heap[b_]? = some (.cells #[.int .i64 (d)] 3 (0, 0)) ∧ w8.heap.size ≤ b_) rfl rfl rfl (by kernel_rfl) (Stable.blk (mk := fun b_ => .slice (some ⟨b_, 0, none⟩) (1) (1))) ?_ ?_
            · intro wb2 ho_wb2
              rintro _ rfl
              rintro _ rfl
              exact And.intro rfl (Eff.newSlice w8.heap.size ho_wb2.size (Eff.buildSlice (len := 1) (cs := [.int .i64 (d)]) [.int .i64 (d)] rfl rfl Try.runUnderlying23 Try.sizeOf3 Try.zeroValue3 rfl rfl rfl (List.forall_mem_cons.2 ⟨rfl, (fun _ h => nomatch h)⟩) rfl))
            refine FL.run (i := 20) [19, 9] false (fun v_ _ => v_ = .int .u64 (((ofL [d]).toNat : Int))) rfl rfl rfl (by kernel_rfl) (Stable.eq _) ?_ ?_
            · intro wb2 ho_wb2
              rintro _ ⟨b_79, rfl, hb_b_79, hn_b_79⟩
              rintro _ rfl
              exact And.intro rfl (Eff.calls (Eff.fn rfl rfl Try.call28 (by rintro _ rfl; exact of_any _ _ 1 [d] (blk_rd (E := encIv .i64) hb_b_79 rfl) (by show 1 ≤ 1000; omega))))
            refine FL.run (i := 21) [17, 20, 9] false (fun v_ _ => v_ = .int .u64 (((((lessE (to &&& ~~~ ofL [d]) x).t &&& to) &&& ~~~ ofL [d]).toNat : Int))) rfl rfl rfl (by kernel_rfl) (Stable.eq _) ?_ ?_
            · intro wb2 ho_wb2
              rintro _ rfl
              rintro _ rfl
              rintro _ rfl
              exact And.intro rfl (Eff.reads (Yield.ar (v' := .int .u64 (((((lessE (to &&& ~~~ ofL [d]) x).t &&& to) &&& ~~~ ofL [d]).toNat : Int))) rfl rfl rfl rfl (int_eq (bv_andNot _ _))) rfl)
            refine FL.run (i := 22) [21, 9] false (fun v_ _ => v_ = .bool false) rfl rfl rfl (by kernel_rfl) (Stable.eq _) ?_ ?_
            · intro wb2 ho_wb2
              rintro _ rfl
              rintro _ rfl
              exact And.intro rfl (Eff.reads (Yield.ar rfl rfl rfl rfl (bool_false (fun h => h ((bv_zero _).2 (but_and x to _))))) rfl)
            refine FL.run (i := 23) [9, 22] false (fun v_ _ => v_ = .bool false) rfl rfl rfl (by kernel_rfl) (Stable.eq _) ?_ ?_
            · intro wb2 ho_wb2
              rintro _ rfl
              rintro _ rfl
              exact And.intro rfl (Eff.reads (Yield.pick_f rfl rfl rfl) rfl)
            refine FL.run (i := 24) [23] false (fun v_ _ => v_ = .bool false) rfl rfl rfl (by kernel_rfl) (Stable.eq _) ?_ ?_
            · intro wb2 ho_wb2
              rintro _ rfl
              exact And.intro rfl (Eff.reads (Yield.move rfl rfl) rfl)
            refine FL.run (i := 25) [24] false (fun v_ _ => v_ = .pointer (some ⟨b_10, 0, none⟩)) rfl rfl rfl (by kernel_rfl) (Stable.eq _) ?_ ?_
            · intro wb2 ho_wb2
              rintro _ rfl
              exact And.intro rfl (Eff.reads (Yield.fieldAt (k := 0) rfl rfl Try.runUnderlying41 rfl Try.sizeOf39 rfl) rfl)
            refine FL.run (i := 26) [25, 24] false (fun v_ _ => v_ = .slice (some ad2) ((l.map (lessE (to &&& ~~~ ofL [d]))).length) (c_39)) rfl rfl rfl (by kernel_rfl) (Stable.eq _) ?_ ?_
            · intro wb2 ho_wb2
              rintro _ rfl
              rintro _ rfl
              have hb_b_10 := ho_wb2.get hb_b_10
              exact And.intro rfl (Eff.reads (Yield.load (v := .slice (some ad2) ((l.map (lessE (to &&& ~~~ ofL [d]))).length) (c_39)) rfl rfl Try.isAgg39 (cell_get hb_b_10 rfl)) rfl)
            refine FL.run (i := 27) [24] false (fun v_ _ => v_ = .int .i64 (i)) rfl rfl rfl (by kernel_rfl) (Stable.eq _) ?_ ?_
            · intro wb2 ho_wb2
              rintro _ rfl
              exact And.intro rfl (Eff.reads (Yield.move rfl rfl) rfl)
            refine FL.run (i := 28) [26, 27, 24] false (fun v_ _ => v_ = .pointer (some ((ad2).add (i * 3)))) rfl rfl rfl (by kernel_rfl) (Stable.eq _) ?_ ?_
            · intro wb2 ho_wb2
              rintro _ rfl
              rintro _ rfl
              rintro _ rfl
              exact And.intro rfl (Eff.reads (Yield.indexNat i rfl rfl rfl Try.runUnderlying39 Try.sizeOf51 (by rw [List.length_map]; omega)) rfl)
            refine FL.run (i := 29) [28, 24] false (fun v_ _ => v_ = .pointer (some (((ad2).add (i * 3)).add 2))) rfl rfl rfl (by kernel_rfl) (Stable.eq _) ?_ ?_
            · intro wb2 ho_wb2
              rintro _ rfl
              rintro _ rfl
              exact And.intro rfl (Eff.reads (Yield.fieldAddr rfl rfl Try.runUnderlying51 rfl Try.sizeOf49) rfl)
            refine FL.run (i := 30) [29, 24] false (fun v_ _ => v_ = .int .u64 (((lessE (to &&& ~~~ ofL [d]) x).t.toNat : Int))) rfl rfl rfl (by kernel_rfl) (Stable.eq _) ?_ ?_
            · intro wb2 ho_wb2
              rintro _ rfl
              rintro _ rfl
              have hv_39 := hv_39.ext ho_wb2
              exact And.intro rfl (Eff.reads (Yield.load (v := .int .u64 (((lessE (to &&& ~~~ ofL [d]) x).t.toNat : Int))) rfl rfl Try.isAgg49 (Rd.at (hv_39.rd) hx2 2 _ rfl)) rfl)
            refine FL.run (i := 31) [24] false (fun v_ _ => v_ = .int .i64 (d)) rfl rfl rfl (by kernel_rfl) (Stable.eq _) ?_ ?_
            · intro wb2 ho_wb2
              rintro _ rfl
              exact And.intro rfl (Eff.reads (Yield.move rfl rfl) rfl)
            refine FL.run (i := 32) [30, 31, 24] false (fun v_ _ => v_ = .bool (hasS x.t d)) rfl rfl rfl (by kernel_rfl) (Stable.eq _) ?_ ?_
            · intro wb2 ho_wb2
              rintro _ rfl
              rintro _ rfl
              rintro _ rfl
              exact And.intro rfl (Eff.calls (Eff.fn rfl rfl Try.call29 (by rintro _ rfl; exact Fc.quiet (Fc.val (has_any _ (lessE (to &&& ~~~ ofL [d]) x).t d) (bool_eq (but_has x to (by omega) (by omega)))))))
            refine FL.run (i := 33) [24] false (fun v_ _ => v_ = .slice (some ad) (l.length) (c)) rfl rfl rfl (by kernel_rfl) (Stable.eq _) ?_ ?_
            · intro wb2 ho_wb2
              rintro _ rfl
              exact And.intro rfl (Eff.reads (Yield.move rfl rfl) rfl)
            refine FL.run (i := 34) [24] false (fun v_ _ => v_ = .int .i64 (i)) rfl rfl rfl (by kernel_rfl) (Stable.eq _) ?_ ?_
            · intro wb2 ho_wb2
              rintro _ rfl
              exact And.intro rfl (Eff.reads (Yield.move rfl rfl) rfl)
            refine FL.run (i := 35) [33, 34, 24] false (fun v_ _ => v_ = .pointer (some ((ad).add (i * 3)))) rfl rfl rfl (by kernel_rfl) (Stable.eq _) ?_ ?_
            · intro wb2 ho_wb2
              rintro _ rfl
              rintro _ rfl
              rintro _ rfl
              exact And.intro rfl (Eff.reads (Yield.indexNat i rfl rfl rfl Try.runUnderlying39 Try.sizeOf51 (by omega)) rfl)
            refine FL.run (i := 36) [35, 24] false (fun v_ _ => v_ = .pointer (some (((ad).add (i * 3)).add 2))) rfl rfl rfl (by kernel_rfl) (Stable.eq _) ?_ ?_
            · intro wb2 ho_wb2
              rintro _ rfl
              rintro _ rfl
              exact And.intro rfl (Eff.reads (Yield.fieldAddr rfl rfl Try.runUnderlying51 rfl Try.sizeOf49) rfl)
            refine FL.run (i := 37) [36, 24] false (fun v_ _ => v_ = .int .u64 ((x.t.toNat : Int))) rfl rfl rfl (by kernel_rfl) (Stable.eq _) ?_ ?_
            · intro wb2 ho_wb2
              rintro _ rfl
              rintro _ rfl
              have hO := hO.ext ho_wb2
              exact And.intro rfl (Eff.reads (Yield.load (v := .int .u64 ((x.t.toNat : Int))) rfl rfl Try.isAgg49 (Rd.at (Rd.ext hr hO) hx 2 _ rfl)) rfl)
            refine FL.run (i := 38) [24] false (fun v_ _ => v_ = .int .i64 (d)) rfl rfl rfl (by kernel_rfl) (Stable.eq _) ?_ ?_
            · intro wb2 ho_wb2
              rintro _ rfl
              exact And.intro rfl (Eff.reads (Yield.move rfl rfl) rfl)
            refine FL.run (i := 39) [37, 38, 24] false (fun v_ _ => v_ = .bool (hasS x.t d)) rfl rfl rfl (by kernel_rfl) (Stable.eq _) ?_ ?_
            · intro wb2 ho_wb2
              rintro _ rfl
              rintro _ rfl
              rintro _ rfl
              exact And.intro rfl (Eff.calls (Eff.fn rfl rfl Try.call29 (by rintro _ rfl; exact Fc.quiet (has_any _ x.t d))))
            refine FL.run (i := 40) [32, 39, 24] false (fun v_ _ => v_ = .bool (!(hasS x.t d == hasS x.t d))) rfl rfl rfl (by kernel_rfl) (Stable.eq _) ?_ ?_
            · intro wb2 ho_wb2
              rintro _ rfl
              rintro _ rfl
              rintro _ rfl
              exact And.intro rfl (Eff.reads (Yield.neBool rfl rfl rfl Try.underlying4) rfl)
            refine FL.run (i := 41) [24, 40] false (fun v_ _ => v_ = .bool (!(hasS x.t d == hasS x.t d))) rfl rfl rfl (by kernel_rfl) (Stable.eq _) ?_ ?_
            · intro wb2 ho_wb2
              rintro _ rfl
              rintro _ rfl
              exact And.intro rfl (Eff.reads (Yield.pick_f rfl rfl rfl) rfl)
            refine FL.run (i := 42) [41] false (fun v_ _ => v_ = .bool (!(hasS x.t d == hasS x.t d))) rfl rfl rfl (by kernel_rfl) (Stable.eq _) ?_ ?_
            · intro wb2 ho_wb2
              rintro _ rfl
              exact And.intro rfl (Eff.reads (Yield.move rfl rfl) rfl)
            have hg42 : (!(hasS x.t d == hasS x.t d)) = false := by simp
            refine FL.run (i := 43) [42] false (fun v_ _ => v_ = .pointer (some ⟨b_9, 0, none⟩)) rfl rfl rfl (by kernel_rfl) (Stable.eq _) ?_ ?_
            · intro wb2 ho_wb2
              rintro _ rfl
              rw [hg42]
              exact And.intro rfl (Eff.reads (Yield.fieldAt (k := 0) rfl rfl Try.runUnderlying41 rfl Try.sizeOf39 rfl) rfl)
            refine FL.run (i := 44) [43, 42] false (fun v_ _ => v_ = .slice (some ad1) ((l.map (lessE to)).length) (c_35)) rfl rfl rfl (by kernel_rfl) (Stable.eq _) ?_ ?_
            · intro wb2 ho_wb2
              rintro _ rfl
              rintro _ rfl
              rw [hg42]
              have hb_b_9 := ho_wb2.get hb_b_9
              exact And.intro rfl (Eff.reads (Yield.load (v := .slice (some ad1) ((l.map (lessE to)).length) (c_35)) rfl rfl Try.isAgg39 (cell_get hb_b_9 rfl)) rfl)
            refine FL.run (i := 45) [42] false (fun v_ _ => v_ = .int .i64 (i)) rfl rfl rfl (by kernel_rfl) (Stable.eq _) ?_ ?_
            · intro wb2 ho_wb2
              rintro _ rfl
              rw [hg42]
              exact And.intro rfl (Eff.reads (Yield.move rfl rfl) rfl)
            refine FL.run (i := 46) [44, 45, 42] false (fun v_ _ => v_ = .pointer (some ((ad1).add (i * 3)))) rfl rfl rfl (by kernel_rfl) (Stable.eq _) ?_ ?_
            · intro wb2 ho_wb2
              rintro _ rfl
              rintro _ rfl
              rintro _ rfl
              rw [hg42]
              exact And.intro rfl (Eff.reads (Yield.indexNat i rfl rfl rfl Try.runUnderlying39 Try.sizeOf51 (by rw [List.length_map]; omega)) rfl)
            refine FL.run (i := 47) [46, 42] false (fun v_ _ => v_ = .pointer (some (((ad1).add (i * 3)).add 2))) rfl rfl rfl (by kernel_rfl) (Stable.eq _) ?_ ?_
            · intro wb2 ho_wb2
              rintro _ rfl
              rintro _ rfl
              rw [hg42]
              exact And.intro rfl (Eff.reads (Yield.fieldAddr rfl rfl Try.runUnderlying51 rfl Try.sizeOf49) rfl)
            refine FL.run (i := 48) [47, 42] false (fun v_ _ => v_ = .int .u64 (((lessE to x).t.toNat : Int))) rfl rfl rfl (by kernel_rfl) (Stable.eq _) ?_ ?_
            · intro wb2 ho_wb2
              rintro _ rfl
              rintro _ rfl
              rw [hg42]
              have hv_35 := hv_35.ext ho_wb2
              exact And.intro rfl (Eff.reads (Yield.load (v := .int .u64 (((lessE to x).t.toNat : Int))) rfl rfl Try.isAgg49 (Rd.at (hv_35.rd) hx1 2 _ rfl)) rfl)
            refine FL.run (i := 49) [42] false (fun v_ _ => v_ = .slice (some ad) (l.length) (c)) rfl rfl rfl (by kernel_rfl) (Stable.eq _) ?_ ?_
            · intro wb2 ho_wb2
              rintro _ rfl
              rw [hg42]
              exact And.intro rfl (Eff.reads (Yield.move rfl rfl) rfl)
            refine FL.run (i := 50) [42] false (fun v_ _ => v_ = .int .i64 (i)) rfl rfl rfl (by kernel_rfl) (Stable.eq _) ?_ ?_
            · intro wb2 ho_wb2
              rintro _ rfl
              rw [hg42]
              exact And.intro rfl (Eff.reads (Yield.move rfl rfl) rfl)
            refine FL.run (i := 51) [49, 50, 42] false (fun v_ _ => v_ = .pointer (some ((ad).add (i * 3)))) rfl rfl rfl (by kernel_rfl) (Stable.eq _) ?_ ?_
            · intro wb2 ho_wb2
              rintro _ rfl
              rintro _ rfl
              rintro _ rfl
              rw [hg42]
              exact And.intro rfl (Eff.reads (Yield.indexNat i rfl rfl rfl Try.runUnderlying39 Try.sizeOf51 (by omega)) rfl)
            refine FL.run (i := 52) [51, 42] false (fun v_ _ => v_ = .pointer (some (((ad).add (i * 3)).add 2))) rfl rfl rfl (by kernel_rfl) (Stable.eq _) ?_ ?_
            · intro wb2 ho_wb2
              rintro _ rfl
              rintro _ rfl
              rw [hg42]
              exact And.intro rfl (Eff.reads (Yield.fieldAddr rfl rfl Try.runUnderlying51 rfl Try.sizeOf49) rfl)
            refine FL.run (i := 53) [52, 42] false (fun v_ _ => v_ = .int .u64 ((x.t.toNat : Int))) rfl rfl rfl (by kernel_rfl) (Stable.eq _) ?_ ?_
            · intro wb2 ho_wb2
              rintro _ rfl
              rintro _ rfl
              rw [hg42]
              have hO := hO.ext ho_wb2
              exact And.intro rfl (Eff.reads (Yield.load (v := .int .u64 ((x.t.toNat : Int))) rfl rfl Try.isAgg49 (Rd.at (Rd.ext hr hO) hx 2 _ rfl)) rfl)
            refine FL.fin rfl [42, 48, 53] ?_
            intro w9 ho_w9
            rintro _ rfl
            rw [hg42]
            rintro _ rfl
            rintro _ rfl
            intro _
            show WL _ _ _ _ _ _ _ _
            replace hb_b1 := ho_w9.get hb_b1
            replace hb_b_9 := ho_w9.get hb_b_9
            replace hb_b_10 := ho_w9.get hb_b_10
            replace hO := hO.ext ho_w9
            replace hv_35 := hv_35.ext ho_w9
            replace hv_39 := hv_39.ext ho_w9
            replace hE_lo1 := hE_lo1.ext ho_w9
            refine WL.eff _ rfl rfl (Eff.fn rfl rfl Try.call30 (by rintro _ rfl; exact Fc.val (within_any _ (lessE to x).t x.t) (bool_eq (less_within x to)))) ?_
            rintro _ _ ⟨rfl, rfl⟩
            refine WL.yield_g rfl rfl rfl (Yield.not rfl rfl) ?_
            refine WL.yield rfl rfl rfl (Yield.pick_f rfl rfl rfl) ?_
            refine WL.fin ?_
            refine Nm.code ?_
            refine W.cond_false rfl ?_
            refine W.skipN ?_
            refine Nm.block ?_
            refine Nm.code ?_
            refine W.region ?_
            refine WL.yield rfl rfl rfl (Yield.move rfl rfl) ?_
            refine WL.yield rfl rfl rfl (Yield.ar (v' := .int .i64 (((i + 1 : Nat) : Int))) rfl rfl rfl rfl (int_eq (by rw [wrap_i64 (by omega) (by omega)]; omega))) ?_
            refine WL.yield rfl rfl rfl (Yield.assign rfl rfl) ?_
            refine WL.fin ?_
            refine Nm.again (i + 1) (Env.has_cons rfl (Env.has_cons rfl (Env.has_cons rfl (Env.has_cons rfl (Env.has_cons rfl (Env.has_cons rfl (Env.has_cons rfl (Env.has_cons rfl (Env.has_cons rfl Env.has_nil))))))))) ⟨by omega, hE_lo1⟩ (by omega)
          · refine W.exitX ?_
            refine Ex.thenX ?_
            refine Ex.thenX ?_
            refine Ex.hit ?_
            refine Nm.code ?_
            refine W.seq ?_
            refine W.region ?_
            refine WL.yield rfl rfl rfl (Yield.assign rfl rfl) ?_
            refine WL.fin ?_
            refine Nm.code ?_
            refine W.ret_post (fun _ _ h => h) Try.results7 rfl ?_
            exact ⟨hO, rfl⟩

end Go.Proofs.Ytpnoddfjklcahaa
