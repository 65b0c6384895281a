import Derived.Test.YtpnoddfjklcahaaTr2

set_option linter.all false
namespace Go.Proofs.Ytpnoddfjklcahaa
open Go Go.Lv Go.RowKit Go.Shoal


theorem less_any (w : World) (A : Option Addr) (c : Nat) (l : List En) (hr : Rd encEn w A l) (hlen : l.length ≤ 100000) (to : BitVec 64) :
    Fc Try.prog 26 #[.agg #[.slice (A) (l.length) (c)], .int .u64 ((to.toNat : Int))] w (fun v w' => Ext w w' ∧ NwLg w.heap.size encEn 51 (lessT l to) v w') := by
  refine Fc.enter (args := [.agg #[.slice (A) (l.length) (c)], .int .u64 ((to.toNat : Int))]) Try.func26 rfl Try.ntmps26 rfl ?_
  intro K_
  have hO : Only (fun _ => False) w w := Only.refl _ _
  refine W.seq ?_
  refine W.region ?_
  refine WL.eff _ rfl rfl (Eff.box rfl rfl) ?_
  rintro _ w1 ⟨_, b1, rfl, hs_b1, rfl, he_w1⟩
  have hb_b1 : w1.heap[b1]? = some (.cells #[.slice (A) (l.length) (c)] 41 (0, 0)) := by rw [he_w1, hs_b1]; exact new_get _ _
  have ho_w1 : Ext w w1 := by rw [he_w1]; exact Ext.alloc _ _
  clear he_w1
  have hn_b1 : w.heap.size ≤ b1 := by rw [hs_b1]; exact hO.size
  replace hO := hO.ext ho_w1
  refine WL.eff _ rfl rfl (Eff.alloc rfl Try.zeroValue41) ?_
  rintro _ w2 ⟨_, b2, rfl, hs_b2, rfl, he_w2⟩
  have hb_b2 : w2.heap[b2]? = some (.cells #[.slice (none) (0) (0)] 41 (0, 0)) := by rw [he_w2, hs_b2]; exact new_get _ _
  have ho_w2 : Ext w1 w2 := by rw [he_w2]; exact Ext.alloc _ _
  clear he_w2
  have hn_b2 : w.heap.size ≤ b2 := by rw [hs_b2]; exact hO.size
  have hq_b1_b2 : b1 < b2 := by rw [hs_b2]; exact blk_lt hb_b1
  replace hb_b1 := ho_w2.get hb_b1
  replace hO := hO.ext ho_w2
  refine WL.fin ?_
  refine Nm.code ?_
  refine W.seq ?_
  refine W.region ?_
  refine WL.yield rfl rfl rfl (Yield.loadAgg (cs := [.slice (A) (l.length) (c)]) rfl rfl Try.isAgg41 Try.sizeOf41 (blk_cells hb_b1 rfl)) ?_
  refine WL.eff _ rfl rfl (Eff.fn rfl rfl Try.call68 (by rintro _ rfl; exact clone_log _ _ _ _ (hr.ext hO) hlen)) ?_
  have hlt_b1_w2 : b1 < w2.heap.size := blk_lt hb_b1
  have hlt_b2_w2 : b2 < w2.heap.size := blk_lt hb_b2
  have hz_w2 := hO.size
  rintro _ w3 ⟨ho_w3, ⟨A_7, c_7, rfl, hc_7, hv_7⟩⟩
  replace hb_b1 := ho_w3.get hb_b1
  replace hb_b2 := ho_w3.get hb_b2
  replace hO := hO.ext ho_w3
  refine WL.eff _ rfl rfl (Eff.storeBlk (vs := [.slice (A_7) (l.length) (c_7)]) (cs := [.slice (A) (l.length) (c)]) (cs' := [.slice (A_7) (l.length) (c_7)]) rfl rfl rfl Try.sizeOf41 rfl (List.forall_mem_cons.2 ⟨rfl, (fun _ h => nomatch h)⟩) hb_b1 rfl rfl) ?_
  rintro _ w4 ⟨ho_w4, hb_new⟩
  replace hb_b1 := hb_new
  replace hb_b2 := ho_w4.get hb_b2 (by omega)
  replace hO := hO.trans ho_w4 (by intro i hi1 hi2; first | exact hi2 | (exfalso; omega) | (left; exact hi2) | (right; exact hi2) | (right; left; exact hi2))
  replace hv_7 := hv_7.only ho_w4 (fun q hq h => absurd (show q = b1 from h) (by have := hv_7.2 q hq; omega))
  refine WL.fin ?_
  refine Nm.code ?_
  refine W.seq ?_
  refine W.seq ?_
  refine W.region ?_
  refine WL.yield rfl rfl rfl (Yield.loadAgg (cs := [.slice (A_7) (l.length) (c_7)]) rfl rfl Try.isAgg41 Try.sizeOf41 (blk_cells hb_b1 rfl)) ?_
  refine WL.eff _ rfl rfl (Eff.fn rfl rfl Try.call21 (by rintro _ rfl; exact good_any _ _ _ _ (Nw.rd hv_7) hlen)) ?_
  have hlt_b1_w4 : b1 < w4.heap.size := blk_lt hb_b1
  have hlt_b2_w4 : b2 < w4.heap.size := blk_lt hb_b2
  have hz_w4 := hO.size
  rintro _ w5 ⟨ho_w5, rfl⟩
  replace hb_b1 := ho_w5.get hb_b1
  replace hb_b2 := ho_w5.get hb_b2
  replace hO := hO.ext ho_w5
  replace hv_7 := hv_7.ext ho_w5
  refine WL.yield rfl rfl rfl (Yield.not rfl rfl) ?_
  refine WL.fin ?_
  refine Nm.code ?_
  refine W.cond rfl (fun hc0 => ?_) (fun hc0 => ?_)
  · refine W.seq ?_
    refine W.region ?_
    refine WL.yield rfl rfl rfl (Yield.loadAgg (cs := [.slice (A_7) (l.length) (c_7)]) rfl rfl Try.isAgg41 Try.sizeOf41 (blk_cells hb_b1 rfl)) ?_
    refine WL.eff _ rfl rfl (Eff.storeBlk (vs := [.slice (A_7) (l.length) (c_7)]) (cs := [.slice (none) (0) (0)]) (cs' := [.slice (A_7) (l.length) (c_7)]) rfl rfl rfl Try.sizeOf41 rfl (List.forall_mem_cons.2 ⟨rfl, (fun _ h => nomatch h)⟩) hb_b2 rfl rfl) ?_
    rintro _ w6 ⟨ho_w6, hb_new⟩
    replace hb_b1 := ho_w6.get hb_b1 (by omega)
    replace hb_b2 := hb_new
    replace hO := hO.trans ho_w6 (by intro i hi1 hi2; first | exact hi2 | (exfalso; omega) | (left; exact hi2) | (right; exact hi2) | (right; left; exact hi2))
    replace hv_7 := hv_7.only ho_w6 (fun q hq h => absurd (show q = b2 from h) (by have := hv_7.2 q hq; omega))
    refine WL.fin ?_
    refine Nm.code ?_
    refine W.ret_postW (fun _ _ h => h) Try.results26 (resW_cell rfl (loadVar_agg (cs := [.slice (A_7) (l.length) (c_7)]) Try.isAgg41 Try.sizeOf41 (blk_cells hb_b2 rfl)) resW_nil) ?_
    first
      | exact ⟨hO, _, _, by rw [lessT_len]; rfl, by rw [lessT_len]; exact hc_7, by rw [lessT_len]; unfold lessT; rw [if_neg (by simpa using hc0)]; exact hv_7.le hz_w2⟩
      | exact ⟨hO, _, _, by rw [lessT_len]; rfl, by rw [lessT_len]; exact hc_7, by rw [lessT_len]; unfold lessT; rw [if_pos (by simpa using hc0)]; rw [mid_all _ _ (by omega)] at hv_7; exact hv_7.le hz_w2⟩
  · refine W.skipN ?_
    refine Nm.code ?_
    refine W.seq ?_
    refine W.seq ?_
    refine W.region ?_
    refine WL.yield rfl rfl rfl (Yield.fieldAt (k := 0) rfl rfl Try.runUnderlying41 rfl Try.sizeOf39 rfl) ?_
    refine WL.yield rfl rfl rfl (Yield.load (v := .slice (A_7) (l.length) (c_7)) rfl rfl Try.isAgg39 (cell_get hb_b1 rfl)) ?_
    refine WL.yield rfl rfl rfl (Yield.lenSlice rfl rfl Try.runUnderlying39) ?_
    refine WL.yield rfl rfl rfl (Yield.move rfl rfl) ?_
    refine WL.fin ?_
    refine Nm.code ?_
    refine W.block ?_
    refine W.loop (σ := Nat) (fun i => [(1, .int .u64 ((to.toNat : Int))), (2, .pointer (some ⟨b1, 0, none⟩)), (4, .pointer (some ⟨b2, 0, none⟩)), (10, .bool (!(good l))), (14, .int .i64 (l.length)), (15, .int .i64 (i))]) (fun i ww => ((i ≤ l.length) ∧ Only (fun _ => False) w ww ∧ ww.heap[b1]? = some (.cells #[.slice (A_7) (l.length) (c_7)] 41 (0, 0)) ∧ ww.heap[b2]? = some (.cells #[.slice (none) (0) (0)] 41 (0, 0)) ∧ Nw w2.heap.size encEn 51 (mid (lessE to) l i) (.slice A_7 l.length c_7) ww)) (fun i => (l.length - i)) 0 (Env.has_cons rfl (Env.has_cons rfl (Env.has_cons rfl (Env.has_cons rfl (Env.has_cons rfl (Env.has_cons rfl Env.has_nil)))))) ⟨Nat.zero_le _, hO, hb_b1, hb_b2, by rw [mid_zero]; exact hv_7⟩ ?_
    clear hO hb_b1 hb_b2 hv_7
    rintro i w7 ⟨hp, hO, hb_b1, hb_b2, hv_7⟩
    refine W.seq ?_
    refine W.region ?_
    refine WL.yield rfl rfl rfl (Yield.bin rfl rfl rfl rfl) ?_
    refine WL.fin ?_
    refine Nm.code ?_
    refine W.seq ?_
    refine W.cond_dec rfl (fun hi => ?_) (fun hi => ?_)
    · have hx0 := getD_some (l := l) (i := i) (by omega)
      obtain ⟨x, hx⟩ := hx0
      obtain ⟨ad, rfl⟩ := (Nw.rd hv_7).addr (i := i) (by rw [mid_len]; omega)
      have hxm := mid_at (lessE to) hx
      refine W.skipN ?_
      refine Nm.code ?_
      refine W.seq ?_
      refine W.block ?_
      refine W.seq ?_
      refine W.region ?_
      refine WL.yield rfl rfl rfl (Yield.move rfl rfl) ?_
      refine WL.yield rfl rfl rfl (Yield.assign rfl rfl) ?_
      refine WL.fin ?_
      refine Nm.code ?_
      refine W.region ?_
      refine WL.yield rfl rfl rfl (Yield.fieldAt (k := 0) rfl rfl Try.runUnderlying41 rfl Try.sizeOf39 rfl) ?_
      refine WL.yield rfl rfl rfl (Yield.load (v := .slice (some ad) (l.length) (c_7)) rfl rfl Try.isAgg39 (cell_get hb_b1 rfl)) ?_
      refine WL.yield rfl rfl rfl (Yield.move rfl rfl) ?_
      refine WL.yield rfl rfl rfl (Yield.indexNat i rfl rfl rfl Try.runUnderlying39 Try.sizeOf51 (by omega)) ?_
      refine WL.yield rfl rfl rfl (Yield.fieldAddr rfl rfl Try.runUnderlying51 rfl Try.sizeOf49) ?_
      refine WL.yield rfl rfl rfl (Yield.load (v := .int .u64 ((x.t.toNat : Int))) rfl rfl Try.isAgg49 (Rd.at (Nw.rd hv_7) hxm 2 _ rfl)) ?_
      refine WL.yield rfl rfl rfl (Yield.move rfl rfl) ?_
      refine WL.yield rfl rfl rfl (Yield.ar (v' := .int .u64 (((x.t &&& ~~~ to).toNat : Int))) rfl rfl rfl rfl (int_eq (bv_andNot x.t to))) ?_
      refine WL.yield rfl rfl rfl (Yield.indexNat i rfl rfl rfl Try.runUnderlying39 Try.sizeOf51 (by omega)) ?_
      refine WL.yield rfl rfl rfl (Yield.fieldAddr rfl rfl Try.runUnderlying51 rfl Try.sizeOf49) ?_
      refine WL.eff _ rfl rfl (Eff.setCellRow (E := encEn) (i := i) (j := 2) (a := x) (b := (lessE to x)) rfl rfl rfl Try.sizeOf49 rfl hv_7 hxm rfl rfl) ?_
      rintro _ w8 ⟨ho_w8, hB_w8, hv_7⟩
      replace hb_b1 := ho_w8.get hb_b1 (by show b1 ≠ _; omega)
      replace hb_b2 := ho_w8.get hb_b2 (by show b2 ≠ _; omega)
      replace hO := hO.trans ho_w8 (by intro i hi1 hi2; first | exact hi2 | (exfalso; omega) | (left; exact hi2) | (right; exact hi2) | (right; left; exact hi2))
      refine WL.fin ?_
      refine Nm.block ?_
      refine Nm.code ?_
      refine W.region ?_
      refine WL.yield rfl rfl rfl (Yield.ar (v' := .int .i64 (((i + 1 : Nat) : Int))) rfl rfl rfl rfl (int_eq (by rw [wrap_i64 (by omega) (by omega)]; omega))) ?_
      refine WL.yield rfl rfl rfl (Yield.move rfl rfl) ?_
      refine WL.fin ?_
      rw [mid_set _ hx] at hv_7
      refine Nm.again (i + 1) (Env.has_cons rfl (Env.has_cons rfl (Env.has_cons rfl (Env.has_cons rfl (Env.has_cons rfl (Env.has_cons rfl Env.has_nil)))))) ⟨by omega, hO, hb_b1, hb_b2, hv_7⟩ (by omega)
    · refine W.exitX ?_
      refine Ex.thenX ?_
      refine Ex.thenX ?_
      refine Ex.hit ?_
      refine Nm.code ?_
      refine W.seq ?_
      refine W.region ?_
      refine WL.yield rfl rfl rfl (Yield.loadAgg (cs := [.slice (A_7) (l.length) (c_7)]) rfl rfl Try.isAgg41 Try.sizeOf41 (blk_cells hb_b1 rfl)) ?_
      refine WL.eff _ rfl rfl (Eff.storeBlk (vs := [.slice (A_7) (l.length) (c_7)]) (cs := [.slice (none) (0) (0)]) (cs' := [.slice (A_7) (l.length) (c_7)]) rfl rfl rfl Try.sizeOf41 rfl (List.forall_mem_cons.2 ⟨rfl, (fun _ h => nomatch h)⟩) hb_b2 rfl rfl) ?_
      rintro _ w9 ⟨ho_w9, hb_new⟩
      replace hb_b1 := ho_w9.get hb_b1 (by omega)
      replace hb_b2 := hb_new
      replace hO := hO.trans ho_w9 (by intro i hi1 hi2; first | exact hi2 | (exfalso; omega) | (left; exact hi2) | (right; exact hi2) | (right; left; exact hi2))
      replace hv_7 := hv_7.only ho_w9 (fun q hq h => absurd (show q = b2 from h) (by have := hv_7.2 q hq; omega))
      refine WL.fin ?_
      refine Nm.code ?_
      refine W.ret_postW (fun _ _ h => h) Try.results26 (resW_cell rfl (loadVar_agg (cs := [.slice (A_7) (l.length) (c_7)]) Try.isAgg41 Try.sizeOf41 (blk_cells hb_b2 rfl)) resW_nil) ?_
      first
        | exact ⟨hO, _, _, by rw [lessT_len]; rfl, by rw [lessT_len]; exact hc_7, by rw [lessT_len]; unfold lessT; rw [if_neg (by simpa using hc0)]; exact hv_7.le hz_w2⟩
        | exact ⟨hO, _, _, by rw [lessT_len]; rfl, by rw [lessT_len]; exact hc_7, by rw [lessT_len]; unfold lessT; rw [if_pos (by simpa using hc0)]; rw [mid_all _ _ (by omega)] at hv_7; exact hv_7.le hz_w2⟩

theorem fold_step {l : List Int} {i : Nat} {x : Int} (hx : l[i]? = some x) : (l.take (i + 1)).foldl ofS 0 = ofS ((l.take i).foldl ofS 0) x := by
  obtain ⟨hl, rfl⟩ := List.getElem?_eq_some_iff.1 hx
  rw [List.take_succ_eq_append_getElem hl, List.foldl_append]; rfl
theorem fold_yes {l : List Int} {i : Nat} {x : Int} (hx : l[i]? = some x) (h1 : x ≥ 0) (h2 : x < 64) : ((l.take i).foldl ofS 0) ||| BitVec.ofNat 64 (2 ^ x.toNat) = (l.take (i + 1)).foldl ofS 0 := by
  rw [fold_step hx, ofS, if_pos ⟨h1, h2⟩]
theorem fold_no {l : List Int} {i : Nat} {x : Int} (hx : l[i]? = some x) (h : ¬ (0 ≤ x ∧ x < 64)) : (l.take i).foldl ofS 0 = (l.take (i + 1)).foldl ofS 0 := by
  rw [fold_step hx, ofS, if_neg h]

theorem of_any (w : World) (A : Option Addr) (c : Nat) (l : List Int) (hr : Rd (encIv .i64) w A l) (hlen : l.length ≤ 1000) :
    Fc Try.prog 28 #[.slice (A) (l.length) (c)] w (fun v w' => Ext w w' ∧ v = .int .u64 ((ofL l).toNat : Int)) := by
  refine Fc.enter (args := [.slice (A) (l.length) (c)]) Try.func28 rfl Try.ntmps28 rfl ?_
  intro K_
  have hO : Only (fun _ => False) w w := Only.refl _ _
  refine W.seq ?_
  refine W.region ?_
  refine WL.yield rfl rfl rfl (Yield.assign rfl rfl) ?_
  refine WL.fin ?_
  refine Nm.code ?_
  refine W.seq ?_
  refine W.region ?_
  refine WL.yield rfl rfl rfl (Yield.assign rfl rfl) ?_
  refine WL.fin ?_
  refine Nm.code ?_
  refine W.seq ?_
  refine W.seq ?_
  refine W.region ?_
  refine WL.yield rfl rfl rfl (Yield.move rfl rfl) ?_
  refine WL.yield rfl rfl rfl (Yield.lenSlice rfl rfl Try.runUnderlying23) ?_
  refine WL.yield rfl rfl rfl (Yield.move rfl rfl) ?_
  refine WL.fin ?_
  refine Nm.code ?_
  refine W.block ?_
  have hz_w := hO.size
  refine W.loop (σ := Nat) (fun i => [(2, .int .u64 (0)), (6, .slice (A) (l.length) (c)), (7, .int .i64 (l.length)), (8, .int .i64 (i)), (3, .int .u64 ((((l.take i).foldl ofS 0).toNat : Int)))]) (fun i ww => ((i ≤ l.length) ∧ Ext w ww)) (fun i => (l.length - i)) 0 (Env.has_cons rfl (Env.has_cons rfl (Env.has_cons rfl (Env.has_cons rfl (Env.has_cons rfl Env.has_nil))))) ⟨Nat.zero_le _, Ext.refl _⟩ ?_
  rintro i w1 ⟨hp, hE_lo1⟩
  have hO_lo1 := hO
  replace hO := hO_lo1.ext hE_lo1
  refine W.seq ?_
  refine W.region ?_
  refine WL.yield rfl rfl rfl (Yield.bin rfl rfl rfl rfl) ?_
  refine WL.fin ?_
  refine Nm.code ?_
  refine W.seq ?_
  refine W.cond_dec rfl (fun hi => ?_) (fun hi => ?_)
  · have hlt_x : i < l.length := by omega
    obtain ⟨ad, rfl⟩ := hr.addr hlt_x
    obtain ⟨x, hx⟩ := getD_some hlt_x
    refine W.skipN ?_
    refine Nm.code ?_
    refine W.seq ?_
    refine W.block ?_
    refine W.seq ?_
    refine W.region ?_
    refine WL.yield rfl rfl rfl (Yield.indexNat i rfl rfl rfl Try.runUnderlying23 Try.sizeOf3 (by omega)) ?_
    refine WL.yield rfl rfl rfl (Yield.load (v := .int .i64 (x)) rfl rfl Try.isAgg3 (Rd.at0 (Rd.ext hr hO) hx rfl)) ?_
    refine WL.yield rfl rfl rfl (Yield.assign rfl rfl) ?_
    refine WL.fin ?_
    refine Nm.code ?_
    refine W.seq ?_
    refine W.region ?_
    refine WL.yield rfl rfl rfl (Yield.move rfl rfl) ?_
    by_cases h1 : x ≥ 0
    · refine WL.yield rfl rfl rfl (Yield.ar rfl rfl rfl rfl (bool_true (h1))) ?_
      refine WL.yield rfl rfl rfl (Yield.move rfl rfl) ?_
      refine WL.yield_g rfl rfl rfl (Yield.move rfl rfl) ?_
      by_cases h2 : x < 64
      · refine WL.yield_g rfl rfl rfl (Yield.ar rfl rfl rfl rfl (bool_true (h2))) ?_
        refine WL.yield rfl rfl rfl (Yield.pick_t rfl rfl rfl) ?_
        refine WL.fin ?_
        refine Nm.code ?_
        refine W.cond_true rfl ?_
        refine W.region ?_
        refine WL.yield rfl rfl rfl (Yield.move rfl rfl) ?_
        refine WL.yield rfl rfl rfl (Yield.move rfl rfl) ?_
        refine WL.yield rfl rfl rfl ((Yield.shl rfl rfl rfl (by omega)).cast (int_eq (shl_n h1 h2))) ?_
        refine WL.yield rfl rfl rfl (Yield.ar (v' := .int .u64 (((((l.take i).foldl ofS 0) ||| BitVec.ofNat 64 (2 ^ x.toNat)).toNat : Int))) rfl rfl rfl rfl (int_eq (bv_or _ _))) ?_
        refine WL.yield rfl rfl rfl (Yield.assign rfl rfl) ?_
        refine WL.fin ?_
        refine Nm.block ?_
        refine Nm.code ?_
        refine W.region ?_
        refine WL.yield rfl rfl rfl (Yield.ar (v' := .int .i64 (((i + 1 : Nat) : Int))) rfl rfl rfl rfl (int_eq (by rw [wrap_i64 (by omega) (by omega)]; omega))) ?_
        refine WL.yield rfl rfl rfl (Yield.move rfl rfl) ?_
        refine WL.fin ?_
        rw [fold_yes hx h1 h2]
        refine Nm.again (i + 1) (Env.has_cons rfl (Env.has_cons rfl (Env.has_cons rfl (Env.has_cons rfl (Env.has_cons rfl Env.has_nil))))) ⟨by omega, hE_lo1⟩ (by omega)
      · refine WL.yield_g rfl rfl rfl (Yield.ar rfl rfl rfl rfl (bool_false (h2))) ?_
        refine WL.yield rfl rfl rfl (Yield.pick_t rfl rfl rfl) ?_
        refine WL.fin ?_
        refine Nm.code ?_
        refine W.cond_false rfl ?_
        refine W.skipN ?_
        refine Nm.block ?_
        refine Nm.code ?_
        refine W.region ?_
        refine WL.yield rfl rfl rfl (Yield.ar (v' := .int .i64 (((i + 1 : Nat) : Int))) rfl rfl rfl rfl (int_eq (by rw [wrap_i64 (by omega) (by omega)]; omega))) ?_
        refine WL.yield rfl rfl rfl (Yield.move rfl rfl) ?_
        refine WL.fin ?_
        rw [fold_no hx (by omega)]
        refine Nm.again (i + 1) (Env.has_cons rfl (Env.has_cons rfl (Env.has_cons rfl (Env.has_cons rfl (Env.has_cons rfl Env.has_nil))))) ⟨by omega, hE_lo1⟩ (by omega)
    · refine WL.yield rfl rfl rfl (Yield.ar rfl rfl rfl rfl (bool_false (h1))) ?_
      refine WL.yield rfl rfl rfl (Yield.move rfl rfl) ?_
      refine WL.skip_g rfl rfl rfl ?_
      refine WL.skip_g rfl rfl rfl ?_
      refine WL.yield rfl rfl rfl (Yield.pick_f rfl rfl rfl) ?_
      refine WL.fin ?_
      refine Nm.code ?_
      refine W.cond_false rfl ?_
      refine W.skipN ?_
      refine Nm.block ?_
      refine Nm.code ?_
      refine W.region ?_
      refine WL.yield rfl rfl rfl (Yield.ar (v' := .int .i64 (((i + 1 : Nat) : Int))) rfl rfl rfl rfl (int_eq (by rw [wrap_i64 (by omega) (by omega)]; omega))) ?_
      refine WL.yield rfl rfl rfl (Yield.move rfl rfl) ?_
      refine WL.fin ?_
      rw [fold_no hx (by omega)]
      refine Nm.again (i + 1) (Env.has_cons rfl (Env.has_cons rfl (Env.has_cons rfl (Env.has_cons rfl (Env.has_cons rfl Env.has_nil))))) ⟨by omega, hE_lo1⟩ (by omega)
  · refine W.exitX ?_
    refine Ex.thenX ?_
    refine Ex.thenX ?_
    refine Ex.hit ?_
    refine Nm.code ?_
    refine W.seq ?_
    refine W.region ?_
    refine WL.yield rfl rfl rfl (Yield.move rfl rfl) ?_
    refine WL.yield rfl rfl rfl (Yield.assign rfl rfl) ?_
    refine WL.fin ?_
    refine Nm.code ?_
    refine W.ret_post (fun _ _ h => h) Try.results28 rfl ?_
    exact ⟨hO, int_eq (by unfold ofL; rw [List.take_of_length_le (by omega)])⟩

theorem has_any (w : World) (s : BitVec 64) (d : Int) :
    Fc Try.prog 29 #[.int .u64 ((s.toNat : Int)), .int .i64 (d)] w (fun v w' => v = .bool (hasS s d) ∧ w = w') := by
  refine Fc.enter (args := [.int .u64 ((s.toNat : Int)), .int .i64 (d)]) Try.func29 rfl Try.ntmps29 rfl ?_
  intro K_
  refine W.seq ?_
  refine W.region ?_
  refine WL.yield rfl rfl rfl (Yield.assign rfl rfl) ?_
  refine WL.fin ?_
  refine Nm.code ?_
  refine W.seq ?_
  refine W.region ?_
  refine WL.yield rfl rfl rfl (Yield.move rfl rfl) ?_
  by_cases h1 : d ≥ 0
  · refine WL.yield rfl rfl rfl (Yield.ar rfl rfl rfl rfl (bool_true (h1))) ?_
    refine WL.yield rfl rfl rfl (Yield.move rfl rfl) ?_
    refine WL.yield_g rfl rfl rfl (Yield.move rfl rfl) ?_
    by_cases h2 : d < 64
    · refine WL.yield_g rfl rfl rfl (Yield.ar rfl rfl rfl rfl (bool_true (h2))) ?_
      refine WL.yield rfl rfl rfl (Yield.pick_t rfl rfl rfl) ?_
      refine WL.yield rfl rfl rfl (Yield.move rfl rfl) ?_
      refine WL.yield_g rfl rfl rfl (Yield.move rfl rfl) ?_
      refine WL.yield_g rfl rfl rfl (Yield.move rfl rfl) ?_
      refine WL.yield_g rfl rfl rfl ((Yield.shr rfl rfl rfl (by omega)).cast (int_eq (shr_bits h1 h2))) ?_
      refine WL.yield_g rfl rfl rfl (Yield.ar (v' := .int .u64 (((BitVec.ofNat 64 (s.toNat / 2 ^ d.toNat) &&& 1).toNat : Int))) rfl rfl rfl rfl (int_eq (bv_and _ 1))) ?_
      refine WL.yield_g rfl rfl rfl (Yield.ar (v' := .bool (hasS s d)) rfl rfl rfl rfl (bool_eq (has_bit h1 h2))) ?_
      refine WL.yield rfl rfl rfl (Yield.pick_t rfl rfl rfl) ?_
      refine WL.yield rfl rfl rfl (Yield.assign rfl rfl) ?_
      refine WL.fin ?_
      refine Nm.code ?_
      refine W.ret_post (fun _ _ h => h) Try.results29 rfl ?_
      first | exact ⟨rfl, rfl⟩ | exact ⟨bool_eq (Eq.symm (by unfold hasS; first | rw [decide_eq_false h1, Bool.false_and, Bool.false_and] | rw [decide_eq_false h2, Bool.and_false, Bool.false_and])), rfl⟩
    · refine WL.yield_g rfl rfl rfl (Yield.ar rfl rfl rfl rfl (bool_false (h2))) ?_
      refine WL.yield rfl rfl rfl (Yield.pick_t rfl rfl rfl) ?_
      refine WL.yield rfl rfl rfl (Yield.move rfl rfl) ?_
      refine WL.skip_g rfl rfl rfl ?_
      refine WL.skip_g rfl rfl rfl ?_
      refine WL.skip_g rfl rfl rfl ?_
      refine WL.skip_g rfl rfl rfl ?_
      refine WL.skip_g rfl rfl rfl ?_
      refine WL.yield rfl rfl rfl (Yield.pick_f rfl rfl rfl) ?_
      refine WL.yield rfl rfl rfl (Yield.assign rfl rfl) ?_
      refine WL.fin ?_
      refine Nm.code ?_
      refine W.ret_post (fun _ _ h => h) Try.results29 rfl ?_
      first | exact ⟨rfl, rfl⟩ | exact ⟨bool_eq (Eq.symm (by unfold hasS; first | rw [decide_eq_false h1, Bool.false_and, Bool.false_and] | rw [decide_eq_false h2, Bool.and_false, Bool.false_and])), rfl⟩
  · refine WL.yield rfl rfl rfl (Yield.ar rfl rfl rfl rfl (bool_false (h1))) ?_
    refine WL.yield rfl rfl rfl (Yield.move rfl rfl) ?_
    refine WL.skip_g rfl rfl rfl ?_
    refine WL.skip_g rfl rfl rfl ?_
    refine WL.yield rfl rfl rfl (Yield.pick_f rfl rfl rfl) ?_
    refine WL.yield rfl rfl rfl (Yield.move rfl rfl) ?_
    refine WL.skip_g rfl rfl rfl ?_
    refine WL.skip_g rfl rfl rfl ?_
    refine WL.skip_g rfl rfl rfl ?_
    refine WL.skip_g rfl rfl rfl ?_
    refine WL.skip_g rfl rfl rfl ?_
    refine WL.yield rfl rfl rfl (Yield.pick_f rfl rfl rfl) ?_
    refine WL.yield rfl rfl rfl (Yield.assign rfl rfl) ?_
    refine WL.fin ?_
    refine Nm.code ?_
    refine W.ret_post (fun _ _ h => h) Try.results29 rfl ?_
    first | exact ⟨rfl, rfl⟩ | exact ⟨bool_eq (Eq.symm (by unfold hasS; first | rw [decide_eq_false h1, Bool.false_and, Bool.false_and] | rw [decide_eq_false h2, Bool.and_false, Bool.false_and])), rfl⟩

theorem but_any (w : World) (A : Option Addr) (c : Nat) (l : List En) (hr : Rd encEn w A l) (hlen : l.length ≤ 100000) (to : BitVec 64) (d : Int) :
    Fc Try.prog 27 #[.agg #[.slice (A) (l.length) (c)], .int .u64 ((to.toNat : Int)), .int .i64 (d)] w (fun v w' => Ext w w' ∧ NwLg w.heap.size encEn 51 (butT l to d) v w') := by
  refine Fc.enter (args := [.agg #[.slice (A) (l.length) (c)], .int .u64 ((to.toNat : Int)), .int .i64 (d)]) Try.func27 rfl Try.ntmps27 rfl ?_
  intro K_
  have hO : Only (fun _ => False) w w := Only.refl _ _
  refine W.seq ?_
  refine W.region ?_
  refine WL.eff _ rfl rfl (Eff.box rfl rfl) ?_
  rintro _ w1 ⟨_, b1, rfl, hs_b1, rfl, he_w1⟩
  have hb_b1 : w1.heap[b1]? = some (.cells #[.slice (A) (l.length) (c)] 41 (0, 0)) := by rw [he_w1, hs_b1]; exact new_get _ _
  have ho_w1 : Ext w w1 := by rw [he_w1]; exact Ext.alloc _ _
  clear he_w1
  have hn_b1 : w.heap.size ≤ b1 := by rw [hs_b1]; exact hO.size
  replace hO := hO.ext ho_w1
  refine WL.eff _ rfl rfl (Eff.alloc rfl Try.zeroValue41) ?_
  rintro _ w2 ⟨_, b2, rfl, hs_b2, rfl, he_w2⟩
  have hb_b2 : w2.heap[b2]? = some (.cells #[.slice (none) (0) (0)] 41 (0, 0)) := by rw [he_w2, hs_b2]; exact new_get _ _
  have ho_w2 : Ext w1 w2 := by rw [he_w2]; exact Ext.alloc _ _
  clear he_w2
  have hn_b2 : w.heap.size ≤ b2 := by rw [hs_b2]; exact hO.size
  have hq_b1_b2 : b1 < b2 := by rw [hs_b2]; exact blk_lt hb_b1
  replace hb_b1 := ho_w2.get hb_b1
  replace hO := hO.ext ho_w2
  refine WL.fin ?_
  refine Nm.code ?_
  refine W.seq ?_
  have hlt_b1_w2 : b1 < w2.heap.size := blk_lt hb_b1
  have hlt_b2_w2 : b2 < w2.heap.size := blk_lt hb_b2
  have hz_w2 := hO.size
  refine W.region_flat 6 Try_follows (by kernel_rfl) (by kernel_rfl) rfl ?_
  refine FL.run (i := 0) [] false (fun v_ _ => v_ = .agg #[.slice (A) (l.length) (c)]) rfl rfl rfl (by kernel_rfl) (Stable.eq _) ?_ ?_
  · intro wb1 ho_wb1
    have hb_b1 := ho_wb1.get hb_b1
    exact And.intro rfl (Eff.reads (Yield.loadAgg (cs := [.slice (A) (l.length) (c)]) rfl rfl Try.isAgg41 Try.sizeOf41 (blk_cells hb_b1 rfl)) rfl)
  refine FL.run (i := 1) [] false (fun v_ _ => v_ = .int .u64 ((to.toNat : Int))) rfl rfl rfl (by kernel_rfl) (Stable.eq _) ?_ ?_
  · intro wb1 ho_wb1
    exact And.intro rfl (Eff.reads (Yield.move rfl rfl) rfl)
  refine FL.run (i := 2) [] false (fun v_ _ => v_ = .int .i64 (d)) rfl rfl rfl (by kernel_rfl) (Stable.eq _) ?_ ?_
  · intro wb1 ho_wb1
    exact And.intro rfl (Eff.reads (Yield.move rfl rfl) rfl)
  refine FL.run (i := 3) [2] true (fun v_ w_ => ∃ b_, v_ = .slice (some ⟨b_, 0, none⟩) (1) (1) ∧ w_.heap[b_]? = some (.cells #[.int .i64 (d)] 3 (0, 0)) ∧ w2.heap.size ≤ b_) rfl rfl rfl (by kernel_rfl) (Stable.blk (mk := fun b_ => .slice (some ⟨b_, 0, none⟩) (1) (1))) ?_ ?_
  · intro wb1 ho_wb1
    rintro _ rfl
    exact And.intro rfl (Eff.newSlice w2.heap.size ho_wb1.size (Eff.buildSlice (len := 1) (cs := [.int .i64 (d)]) [.int .i64 (d)] rfl rfl Try.runUnderlying23 Try.sizeOf3 Try.zeroValue3 rfl rfl rfl (List.forall_mem_cons.2 ⟨rfl, (fun _ h => nomatch h)⟩) rfl))
  refine FL.run (i := 4) [3] false (fun v_ _ => v_ = .int .u64 (((ofL [d]).toNat : Int))) rfl rfl rfl (by kernel_rfl) (Stable.eq _) ?_ ?_
  · intro wb1 ho_wb1
    rintro _ ⟨b_10, rfl, hb_b_10, hn_b_10⟩
    exact And.intro rfl (Eff.calls (Eff.fn rfl rfl Try.call28 (by rintro _ rfl; exact of_any _ _ 1 [d] (blk_rd (E := encIv .i64) hb_b_10 rfl) (by show 1 ≤ 1000; omega))))
  refine FL.run (i := 5) [1, 4] false (fun v_ _ => v_ = .int .u64 (((to &&& ~~~ ofL [d]).toNat : Int))) rfl rfl rfl (by kernel_rfl) (Stable.eq _) ?_ ?_
  · intro wb1 ho_wb1
    rintro _ rfl
    rintro _ rfl
    exact And.intro rfl (Eff.reads (Yield.ar (v' := .int .u64 (((to &&& ~~~ ofL [d]).toNat : Int))) rfl rfl rfl rfl (int_eq (bv_andNot _ _))) rfl)
  refine FL.fin rfl [0, 5] ?_
  intro w3 ho_w3
  rintro _ rfl
  rintro _ rfl
  intro _
  show WL _ _ _ _ _ _ _ _
  replace hb_b1 := ho_w3.get hb_b1
  replace hb_b2 := ho_w3.get hb_b2
  replace hO := hO.ext ho_w3
  refine WL.eff _ rfl rfl (Eff.fn rfl rfl Try.call26 (by rintro _ rfl; exact less_any _ _ _ _ (Rd.ext hr hO) hlen _)) ?_
  have hlt_b1_w3 : b1 < w3.heap.size := blk_lt hb_b1
  have hlt_b2_w3 : b2 < w3.heap.size := blk_lt hb_b2
  have hz_w3 := hO.size
  rintro _ w4 ⟨ho_w4, ⟨A_13, c_13, rfl, hc_13, hv_13⟩⟩
  replace hb_b1 := ho_w4.get hb_b1
  replace hb_b2 := ho_w4.get hb_b2
  replace hO := hO.ext ho_w4
  refine WL.eff _ rfl rfl (Eff.storeBlk (vs := [.slice (A_13) ((butT l to d).length) (c_13)]) (cs := [.slice (none) (0) (0)]) (cs' := [.slice (A_13) ((butT l to d).length) (c_13)]) rfl rfl rfl Try.sizeOf41 rfl (List.forall_mem_cons.2 ⟨rfl, (fun _ h => nomatch h)⟩) hb_b2 rfl rfl) ?_
  rintro _ w5 ⟨ho_w5, hb_new⟩
  replace hb_b1 := ho_w5.get hb_b1 (by omega)
  replace hb_b2 := hb_new
  replace hO := hO.trans ho_w5 (by intro i hi1 hi2; first | exact hi2 | (exfalso; omega) | (left; exact hi2) | (right; exact hi2) | (right; left; exact hi2))
  replace hv_13 := hv_13.only ho_w5 (fun q hq h => absurd (show q = b2 from h) (by have := hv_13.2 q hq; omega))
  refine WL.fin ?_
  refine Nm.code ?_
  refine W.ret_postW (fun _ _ h => h) Try.results27 (resW_cell rfl (loadVar_agg (cs := [.slice (A_13) ((butT l to d).length) (c_13)]) Try.isAgg41 Try.sizeOf41 (blk_cells hb_b2 rfl)) resW_nil) ?_
  exact ⟨hO, _, _, rfl, hc_13, hv_13.le hz_w3⟩

theorem purge_any (w : World) (A : Option Addr) (c : Nat) (l : List En) (hr : Rd encEn w A l) (hlen : l.length ≤ 100000) :
    Fc Try.prog 22 #[.agg #[.slice (A) (l.length) (c)]] w (fun v w' => Ext w w' ∧ NwLg w.heap.size encEn 51 (purgeT l) v w') := by
  refine Fc.enter (args := [.agg #[.slice (A) (l.length) (c)]]) Try.func22 rfl Try.ntmps22 rfl ?_
  intro K_
  have hO : Only (fun _ => False) w w := Only.refl _ _
  refine W.seq ?_
  refine W.region ?_
  refine WL.eff _ rfl rfl (Eff.box rfl rfl) ?_
  rintro _ w1 ⟨_, b1, rfl, hs_b1, rfl, he_w1⟩
  have hb_b1 : w1.heap[b1]? = some (.cells #[.slice (A) (l.length) (c)] 41 (0, 0)) := by rw [he_w1, hs_b1]; exact new_get _ _
  have ho_w1 : Ext w w1 := by rw [he_w1]; exact Ext.alloc _ _
  clear he_w1
  have hn_b1 : w.heap.size ≤ b1 := by rw [hs_b1]; exact hO.size
  replace hO := hO.ext ho_w1
  refine WL.eff _ rfl rfl (Eff.alloc rfl Try.zeroValue41) ?_
  rintro _ w2 ⟨_, b2, rfl, hs_b2, rfl, he_w2⟩
  have hb_b2 : w2.heap[b2]? = some (.cells #[.slice (none) (0) (0)] 41 (0, 0)) := by rw [he_w2, hs_b2]; exact new_get _ _
  have ho_w2 : Ext w1 w2 := by rw [he_w2]; exact Ext.alloc _ _
  clear he_w2
  have hn_b2 : w.heap.size ≤ b2 := by rw [hs_b2]; exact hO.size
  have hq_b1_b2 : b1 < b2 := by rw [hs_b2]; exact blk_lt hb_b1
  replace hb_b1 := ho_w2.get hb_b1
  replace hO := hO.ext ho_w2
  refine WL.fin ?_
  refine Nm.code ?_
  refine W.seq ?_
  refine W.region ?_
  refine WL.yield rfl rfl rfl (Yield.loadAgg (cs := [.slice (A) (l.length) (c)]) rfl rfl Try.isAgg41 Try.sizeOf41 (blk_cells hb_b1 rfl)) ?_
  refine WL.eff _ rfl rfl (Eff.fn rfl rfl Try.call68 (by rintro _ rfl; exact clone_log _ _ _ _ (hr.ext hO) hlen)) ?_
  have hlt_b1_w2 : b1 < w2.heap.size := blk_lt hb_b1
  have hlt_b2_w2 : b2 < w2.heap.size := blk_lt hb_b2
  have hz_w2 := hO.size
  rintro _ w3 ⟨ho_w3, ⟨A_7, c_7, rfl, hc_7, hv_7⟩⟩
  replace hb_b1 := ho_w3.get hb_b1
  replace hb_b2 := ho_w3.get hb_b2
  replace hO := hO.ext ho_w3
  refine WL.eff _ rfl rfl (Eff.storeBlk (vs := [.slice (A_7) (l.length) (c_7)]) (cs := [.slice (A) (l.length) (c)]) (cs' := [.slice (A_7) (l.length) (c_7)]) rfl rfl rfl Try.sizeOf41 rfl (List.forall_mem_cons.2 ⟨rfl, (fun _ h => nomatch h)⟩) hb_b1 rfl rfl) ?_
  rintro _ w4 ⟨ho_w4, hb_new⟩
  replace hb_b1 := hb_new
  replace hb_b2 := ho_w4.get hb_b2 (by omega)
  replace hO := hO.trans ho_w4 (by intro i hi1 hi2; first | exact hi2 | (exfalso; omega) | (left; exact hi2) | (right; exact hi2) | (right; left; exact hi2))
  replace hv_7 := hv_7.only ho_w4 (fun q hq h => absurd (show q = b1 from h) (by have := hv_7.2 q hq; omega))
  refine WL.fin ?_
  refine Nm.code ?_
  refine W.seq ?_
  refine W.seq ?_
  refine W.region ?_
  refine WL.yield rfl rfl rfl (Yield.loadAgg (cs := [.slice (A_7) (l.length) (c_7)]) rfl rfl Try.isAgg41 Try.sizeOf41 (blk_cells hb_b1 rfl)) ?_
  refine WL.eff _ rfl rfl (Eff.fn rfl rfl Try.call21 (by rintro _ rfl; exact good_any _ _ _ _ (Nw.rd hv_7) hlen)) ?_
  have hlt_b1_w4 : b1 < w4.heap.size := blk_lt hb_b1
  have hlt_b2_w4 : b2 < w4.heap.size := blk_lt hb_b2
  have hz_w4 := hO.size
  rintro _ w5 ⟨ho_w5, rfl⟩
  replace hb_b1 := ho_w5.get hb_b1
  replace hb_b2 := ho_w5.get hb_b2
  replace hO := hO.ext ho_w5
  replace hv_7 := hv_7.ext ho_w5
  refine WL.yield rfl rfl rfl (Yield.not rfl rfl) ?_
  refine WL.fin ?_
  refine Nm.code ?_
  refine W.cond rfl (fun hc0 => ?_) (fun hc0 => ?_)
  · refine W.seq ?_
    refine W.region ?_
    refine WL.yield rfl rfl rfl (Yield.loadAgg (cs := [.slice (A_7) (l.length) (c_7)]) rfl rfl Try.isAgg41 Try.sizeOf41 (blk_cells hb_b1 rfl)) ?_
    refine WL.eff _ rfl rfl (Eff.storeBlk (vs := [.slice (A_7) (l.length) (c_7)]) (cs := [.slice (none) (0) (0)]) (cs' := [.slice (A_7) (l.length) (c_7)]) rfl rfl rfl Try.sizeOf41 rfl (List.forall_mem_cons.2 ⟨rfl, (fun _ h => nomatch h)⟩) hb_b2 rfl rfl) ?_
    rintro _ w6 ⟨ho_w6, hb_new⟩
    replace hb_b1 := ho_w6.get hb_b1 (by omega)
    replace hb_b2 := hb_new
    replace hO := hO.trans ho_w6 (by intro i hi1 hi2; first | exact hi2 | (exfalso; omega) | (left; exact hi2) | (right; exact hi2) | (right; left; exact hi2))
    replace hv_7 := hv_7.only ho_w6 (fun q hq h => absurd (show q = b2 from h) (by have := hv_7.2 q hq; omega))
    refine WL.fin ?_
    refine Nm.code ?_
    refine W.ret_postW (fun _ _ h => h) Try.results22 (resW_cell rfl (loadVar_agg (cs := [.slice (A_7) (l.length) (c_7)]) Try.isAgg41 Try.sizeOf41 (blk_cells hb_b2 rfl)) resW_nil) ?_
    exact ⟨hO, _, _, by unfold purgeT; rw [if_neg (by simpa using hc0)]; rfl, by unfold purgeT; rw [if_neg (by simpa using hc0)]; exact hc_7, by unfold purgeT; rw [if_neg (by simpa using hc0)]; exact hv_7.le hz_w2⟩
  · refine W.skipN ?_
    refine Nm.code ?_
    refine W.seq ?_
    refine W.region ?_
    refine WL.yield rfl rfl rfl (Yield.assign rfl rfl) ?_
    refine WL.fin ?_
    refine Nm.code ?_
    refine W.seq ?_
    refine W.seq ?_
    refine W.region ?_
    refine WL.yield rfl rfl rfl (Yield.fieldAt (k := 0) rfl rfl Try.runUnderlying41 rfl Try.sizeOf39 rfl) ?_
    refine WL.yield rfl rfl rfl (Yield.load (v := .slice (A_7) (l.length) (c_7)) rfl rfl Try.isAgg39 (cell_get hb_b1 rfl)) ?_
    refine WL.yield rfl rfl rfl (Yield.lenSlice rfl rfl Try.runUnderlying39) ?_
    refine WL.yield rfl rfl rfl (Yield.move rfl rfl) ?_
    refine WL.fin ?_
    refine Nm.code ?_
    refine W.block ?_
    have hz_w5 := hO.size
    have hlt_b1_w5 : b1 < w5.heap.size := blk_lt hb_b1
    have hlt_b2_w5 : b2 < w5.heap.size := blk_lt hb_b2
    refine W.loop (σ := Nat × List En × Option Addr × Nat) (fun ⟨i, acc, A_v, c_v⟩ => [(1, .pointer (some ⟨b1, 0, none⟩)), (2, .pointer (some ⟨b2, 0, none⟩)), (10, .bool (!(good l))), (13, .slice (A_7) (l.length) (c_7)), (14, .int .i64 (l.length)), (15, .int .i64 (i)), (3, .slice (A_v) (acc.length) (c_v))]) (fun ⟨i, acc, A_v, c_v⟩ ww => ((i ≤ l.length ∧ acc.length ≤ i ∧ acc ++ purgeL (l.drop i) = purgeL l) ∧ Ext w5 ww ∧ Nw w5.heap.size encEn 51 acc (.slice A_v acc.length c_v) ww)) (fun ⟨i, acc, A_v, c_v⟩ => (l.length - i)) ⟨0, [], none, 0⟩ (Env.has_cons rfl (Env.has_cons rfl (Env.has_cons rfl (Env.has_cons rfl (Env.has_cons rfl (Env.has_cons rfl (Env.has_cons rfl Env.has_nil))))))) ⟨⟨Nat.zero_le _, Nat.le_refl _, rfl⟩, Ext.refl _, Nw.nil _ _ _ _⟩ ?_
    rintro ⟨i, acc, A_v, c_v⟩ w7 ⟨hp, hE_lo1, hv_v⟩
    have hb_b1_lo1 := hb_b1
    replace hb_b1 := Ext.get hE_lo1 hb_b1_lo1
    have hb_b2_lo1 := hb_b2
    replace hb_b2 := Ext.get hE_lo1 hb_b2_lo1
    have hO_lo1 := hO
    replace hO := hO_lo1.ext hE_lo1
    have hv_7_lo1 := hv_7
    replace hv_7 := hv_7_lo1.ext hE_lo1
    refine W.seq ?_
    refine W.region ?_
    refine WL.yield rfl rfl rfl (Yield.bin rfl rfl rfl rfl) ?_
    refine WL.fin ?_
    refine Nm.code ?_
    refine W.seq ?_
    refine W.cond_dec rfl (fun hi => ?_) (fun hi => ?_)
    · have hlt_x : i < l.length := by omega
      obtain ⟨ad, rfl⟩ := (Nw.rd hv_7).addr hlt_x
      obtain ⟨x, hx⟩ := getD_some hlt_x
      refine W.skipN ?_
      refine Nm.code ?_
      refine W.seq ?_
      refine W.block ?_
      refine W.seq ?_
      refine W.region ?_
      refine WL.yield rfl rfl rfl (Yield.move rfl rfl) ?_
      refine WL.yield rfl rfl rfl (Yield.indexNat i rfl rfl rfl Try.runUnderlying39 Try.sizeOf51 (by omega)) ?_
      refine WL.yield rfl rfl rfl (Yield.loadAgg (cs := [.int .i64 (x.f), .int .u64 ((x.n.toNat : Int)), .int .u64 ((x.t.toNat : Int))]) rfl rfl Try.isAgg51 Try.sizeOf51 (Rd.at (Nw.rd hv_7) hx)) ?_
      refine WL.eff _ rfl rfl (Eff.alloc rfl Try.zeroValue51) ?_
      rintro _ w8 ⟨_, b3, rfl, hs_b3, rfl, he_w8⟩
      have hb_b3 : w8.heap[b3]? = some (.cells #[.int .i64 (0), .int .u64 (0), .int .u64 (0)] 51 (0, 0)) := by rw [he_w8, hs_b3]; exact new_get _ _
      have ho_w8 : Ext w7 w8 := by rw [he_w8]; exact Ext.alloc _ _
      clear he_w8
      have hn_b3 : w.heap.size ≤ b3 := by rw [hs_b3]; exact hO.size
      have hn_b3_hE_lo1 : w5.heap.size ≤ b3 := by rw [hs_b3]; exact hE_lo1.size
      have hl_hv_7_b3 := Nw.below hv_7 (Nat.le_of_eq hs_b3.symm)
      have hl_hv_v_b3 := Nw.below hv_v (Nat.le_of_eq hs_b3.symm)
      have hq_b1_b3 : b1 < b3 := by rw [hs_b3]; exact blk_lt hb_b1
      have hq_b2_b3 : b2 < b3 := by rw [hs_b3]; exact blk_lt hb_b2
      replace hb_b1 := ho_w8.get hb_b1
      replace hb_b2 := ho_w8.get hb_b2
      replace hO := hO.ext ho_w8
      replace hv_7 := hv_7.ext ho_w8
      replace hv_v := hv_v.ext ho_w8
      replace hE_lo1 := hE_lo1.ext ho_w8
      refine WL.yield rfl rfl rfl (Yield.assign rfl rfl) ?_
      refine WL.eff _ rfl rfl (Eff.storeBlk (vs := [.int .i64 (x.f), .int .u64 ((x.n.toNat : Int)), .int .u64 ((x.t.toNat : Int))]) (cs := [.int .i64 (0), .int .u64 (0), .int .u64 (0)]) (cs' := [.int .i64 (x.f), .int .u64 ((x.n.toNat : Int)), .int .u64 ((x.t.toNat : Int))]) rfl rfl rfl Try.sizeOf51 rfl (List.forall_mem_cons.2 ⟨rfl, (List.forall_mem_cons.2 ⟨rfl, (List.forall_mem_cons.2 ⟨rfl, (fun _ h => nomatch h)⟩)⟩)⟩) hb_b3 rfl rfl) ?_
      rintro _ w9 ⟨ho_w9, hb_new⟩
      replace hb_b1 := ho_w9.get hb_b1 (by omega)
      replace hb_b2 := ho_w9.get hb_b2 (by omega)
      replace hb_b3 := hb_new
      replace hO := hO.trans ho_w9 (by intro i hi1 hi2; first | exact hi2 | (exfalso; omega) | (left; exact hi2) | (right; exact hi2) | (right; left; exact hi2))
      replace hv_7 := hv_7.only ho_w9 (fun q hq h => absurd (show q = b3 from h) (by have := hv_7.2 q hq; have := hl_hv_7_b3 q hq; omega))
      replace hv_v := hv_v.only ho_w9 (fun q hq h => absurd (show q = b3 from h) (by have := hv_v.2 q hq; have := hl_hv_v_b3 q hq; omega))
      replace hE_lo1 := hE_lo1.trans ho_w9 (by intro i hi1 hi2; exfalso; omega)
      refine WL.fin ?_
      refine Nm.code ?_
      refine W.seq ?_
      have hlt_b1_w9 : b1 < w9.heap.size := blk_lt hb_b1
      have hlt_b2_w9 : b2 < w9.heap.size := blk_lt hb_b2
      have hlt_b3_w9 : b3 < w9.heap.size := blk_lt hb_b3
      have hz_w9 := hO.size
      refine W.region_flat 21 Try_follows (by kernel_rfl) (by kernel_rfl) rfl ?_
      refine FL.run (i := 0) [] false (fun v_ _ => v_ = .pointer (some ⟨b3, 2, none⟩)) rfl rfl rfl (by kernel_rfl) (Stable.eq _) ?_ ?_
      · intro wb1 ho_wb1
        exact And.intro rfl (Eff.reads (Yield.fieldAt (k := 2) rfl rfl Try.runUnderlying51 rfl Try.sizeOf49 rfl) rfl)
      refine FL.run (i := 1) [0] false (fun v_ _ => v_ = .int .u64 ((x.t.toNat : Int))) rfl rfl rfl (by kernel_rfl) (Stable.eq _) ?_ ?_
      · intro wb1 ho_wb1
        rintro _ rfl
        have hb_b3 := ho_wb1.get hb_b3
        exact And.intro rfl (Eff.reads (Yield.load (v := .int .u64 ((x.t.toNat : Int))) rfl rfl Try.isAgg49 (cell_get hb_b3 rfl)) rfl)
      refine FL.run (i := 2) [1] false (fun v_ _ => v_ = .bool (decide (x.t ≠ 0))) rfl rfl rfl (by kernel_rfl) (Stable.eq _) ?_ ?_
      · intro wb1 ho_wb1
        rintro _ rfl
        exact And.intro rfl (Eff.reads (Yield.ar (v' := .bool (decide (x.t ≠ 0))) rfl rfl rfl rfl (bool_dec (not_congr (bv_zero _)))) rfl)
      refine FL.run (i := 3) [2] false (fun v_ _ => v_ = .bool (decide (x.t ≠ 0))) rfl rfl rfl (by kernel_rfl) (Stable.eq _) ?_ ?_
      · intro wb1 ho_wb1
        rintro _ rfl
        exact And.intro rfl (Eff.reads (Yield.move rfl rfl) rfl)
      by_cases hg1 : x.t ≠ 0
      · refine FL.skip (i := 4) [3] rfl rfl rfl (by kernel_rfl) ?_ ?_
        · intro wb1 ho_wb1
          rintro _ rfl
          rw [decide_eq_true hg1]
          exact rfl
        refine FL.skip (i := 5) [3] rfl rfl rfl (by kernel_rfl) ?_ ?_
        · intro wb1 ho_wb1
          rintro _ rfl
          rw [decide_eq_true hg1]
          exact rfl
        refine FL.skip (i := 6) [5, 3] rfl rfl rfl (by kernel_rfl) ?_ ?_
        · intro wb1 ho_wb1
          rintro _ rfl
          rintro _ rfl
          rw [decide_eq_true hg1]
          exact rfl
        refine FL.skip (i := 7) [6, 3] rfl rfl rfl (by kernel_rfl) ?_ ?_
        · intro wb1 ho_wb1
          rintro _ rfl
          rintro _ rfl
          rw [decide_eq_true hg1]
          exact rfl
        refine FL.skip (i := 8) [7, 3] rfl rfl rfl (by kernel_rfl) ?_ ?_
        · intro wb1 ho_wb1
          rintro _ rfl
          rintro _ rfl
          rw [decide_eq_true hg1]
          exact rfl
        refine FL.skip (i := 9) [4, 8, 3] rfl rfl rfl (by kernel_rfl) ?_ ?_
        · intro wb1 ho_wb1
          rintro _ rfl
          rintro _ rfl
          rintro _ rfl
          rw [decide_eq_true hg1]
          exact rfl
        refine FL.run (i := 10) [3, 9] false (fun v_ _ => v_ = .bool true) rfl rfl rfl (by kernel_rfl) (Stable.eq _) ?_ ?_
        · intro wb1 ho_wb1
          rintro _ rfl
          rw [decide_eq_true hg1]
          rintro _ rfl
          exact And.intro rfl (Eff.reads (Yield.pick_t rfl rfl rfl) rfl)
        refine FL.run (i := 11) [10] false (fun v_ _ => v_ = .bool true) rfl rfl rfl (by kernel_rfl) (Stable.eq _) ?_ ?_
        · intro wb1 ho_wb1
          rintro _ rfl
          exact And.intro rfl (Eff.reads (Yield.move rfl rfl) rfl)
        refine FL.skip (i := 12) [11] rfl rfl rfl (by kernel_rfl) ?_ ?_
        · intro wb1 ho_wb1
          rintro _ rfl
          exact rfl
        refine FL.skip (i := 13) [12, 11] rfl rfl rfl (by kernel_rfl) ?_ ?_
        · intro wb1 ho_wb1
          rintro _ rfl
          rintro _ rfl
          exact rfl
        refine FL.skip (i := 14) [11] rfl rfl rfl (by kernel_rfl) ?_ ?_
        · intro wb1 ho_wb1
          rintro _ rfl
          exact rfl
        refine FL.skip (i := 15) [14, 11] rfl rfl rfl (by kernel_rfl) ?_ ?_
        · intro wb1 ho_wb1
          rintro _ rfl
          rintro _ rfl
          exact rfl
        refine FL.skip (i := 16) [13, 15, 11] rfl rfl rfl (by kernel_rfl) ?_ ?_
        · intro wb1 ho_wb1
          rintro _ rfl
          rintro _ rfl
          rintro _ rfl
          exact rfl
        refine FL.skip (i := 17) [16, 11] rfl rfl rfl (by kernel_rfl) ?_ ?_
        · intro wb1 ho_wb1
          rintro _ rfl
          rintro _ rfl
          exact rfl
        refine FL.skip (i := 18) [17, 11] rfl rfl rfl (by kernel_rfl) ?_ ?_
        · intro wb1 ho_wb1
          rintro _ rfl
          rintro _ rfl
          exact rfl
        refine FL.skip (i := 19) [11] rfl rfl rfl (by kernel_rfl) ?_ ?_
        · intro wb1 ho_wb1
          rintro _ rfl
          exact rfl
        refine FL.skip (i := 20) [19, 11] rfl rfl rfl (by kernel_rfl) ?_ ?_
        · intro wb1 ho_wb1
          rintro _ rfl
          rintro _ rfl
          exact rfl
        refine FL.fin rfl [11, 18, 20] ?_
        intro w10 ho_w10
        rintro _ rfl
        rintro _ rfl
        rintro _ rfl
        intro _
        show WL _ _ _ _ _ _ _ _
        replace hb_b1 := ho_w10.get hb_b1
        replace hb_b2 := ho_w10.get hb_b2
        replace hb_b3 := ho_w10.get hb_b3
        replace hO := hO.ext ho_w10
        replace hv_7 := hv_7.ext ho_w10
        replace hv_v := hv_v.ext ho_w10
        replace hE_lo1 := hE_lo1.ext ho_w10
        refine WL.skip_g rfl rfl rfl ?_
        refine WL.yield rfl rfl rfl (Yield.pick_t rfl rfl rfl) ?_
        refine WL.fin ?_
        refine Nm.code ?_
        refine W.cond_true rfl ?_
        refine W.region ?_
        refine WL.yield rfl rfl rfl (Yield.move rfl rfl) ?_
        refine WL.yield rfl rfl rfl (Yield.loadAgg (cs := [.int .i64 (x.f), .int .u64 ((x.n.toNat : Int)), .int .u64 ((x.t.toNat : Int))]) rfl rfl Try.isAgg51 Try.sizeOf51 (blk_cells hb_b3 rfl)) ?_
        refine WL.eff _ rfl rfl (Eff.buildSlice (cs := [.int .i64 (x.f), .int .u64 ((x.n.toNat : Int)), .int .u64 ((x.t.toNat : Int))]) [.agg #[.int .i64 (x.f), .int .u64 ((x.n.toNat : Int)), .int .u64 ((x.t.toNat : Int))]] rfl rfl Try.runUnderlying39 Try.sizeOf51 Try.zeroValue51 rfl rfl rfl (List.forall_mem_cons.2 ⟨rfl, (fun _ h => nomatch h)⟩) rfl) ?_
        rintro _ w11 ⟨_, b4, rfl, hs_b4, rfl, he_w11⟩
        have hb_b4 : w11.heap[b4]? = some (.cells #[.int .i64 (x.f), .int .u64 ((x.n.toNat : Int)), .int .u64 ((x.t.toNat : Int))] 51 (0, 0)) := by rw [he_w11, hs_b4]; exact new_get _ _
        have ho_w11 : Ext w10 w11 := by rw [he_w11]; exact Ext.alloc _ _
        clear he_w11
        have hn_b4 : w.heap.size ≤ b4 := by rw [hs_b4]; exact hO.size
        have hn_b4_hE_lo1 : w5.heap.size ≤ b4 := by rw [hs_b4]; exact hE_lo1.size
        have hl_hv_7_b4 := Nw.below hv_7 (Nat.le_of_eq hs_b4.symm)
        have hl_hv_v_b4 := Nw.below hv_v (Nat.le_of_eq hs_b4.symm)
        have hq_b1_b4 : b1 < b4 := by rw [hs_b4]; exact blk_lt hb_b1
        have hq_b2_b4 : b2 < b4 := by rw [hs_b4]; exact blk_lt hb_b2
        have hq_b3_b4 : b3 < b4 := by rw [hs_b4]; exact blk_lt hb_b3
        replace hb_b1 := ho_w11.get hb_b1
        replace hb_b2 := ho_w11.get hb_b2
        replace hb_b3 := ho_w11.get hb_b3
        replace hO := hO.ext ho_w11
        replace hv_7 := hv_7.ext ho_w11
        replace hv_v := hv_v.ext ho_w11
        replace hE_lo1 := hE_lo1.ext ho_w11
        refine WL.eff _ rfl rfl (Eff.push (E := encEn) (xs := acc) (ys := [x]) (bytes := 24) (i := Try.t51) (z := .agg #[.int .i64 (0), .int .u64 (0), .int .u64 (0)]) rfl rfl rfl rfl Try.underlying39 Try.underlying39 (by kernel_rfl) rfl rfl rfl rfl hE_lo1 hE_lo1.size (Nat.le_refl _) hv_v (blk_rd (E := encEn) (l := [x]) hb_b4 rfl) rfl (by show (acc.length + 1) * _ ≤ _; omega)) ?_
        rintro v_v2 w12 ⟨hE_lo1, hv_v2, ho_w12⟩
        obtain ⟨A_v2, c_v2, rfl, hc_v2, hv_v2⟩ := hv_v2.toSl
        replace hb_b1 := Ext.get hE_lo1 hb_b1_lo1
        replace hb_b2 := Ext.get hE_lo1 hb_b2_lo1
        replace hO := hO_lo1.ext hE_lo1
        replace hv_7 := hv_7_lo1.ext hE_lo1
        refine WL.yield rfl rfl rfl (Yield.assign rfl rfl) ?_
        refine WL.fin ?_
        refine Nm.block ?_
        refine Nm.code ?_
        refine W.region ?_
        refine WL.yield rfl rfl rfl (Yield.ar (v' := .int .i64 (((i + 1 : Nat) : Int))) rfl rfl rfl rfl (int_eq (by rw [wrap_i64 (by omega) (by omega)]; omega))) ?_
        refine WL.yield rfl rfl rfl (Yield.move rfl rfl) ?_
        refine WL.fin ?_
        refine Nm.again ⟨i + 1, acc ++ [x], A_v2, c_v2⟩ (Env.has_cons rfl (Env.has_cons rfl (Env.has_cons rfl (Env.has_cons rfl (Env.has_cons rfl (Env.has_cons rfl (Env.has_cons rfl Env.has_nil))))))) ⟨⟨by omega, by simp; omega, by rw [← hp.2.2, purge_yes hx (by first | exact .inl (by assumption) | exact .inr (.inl (by assumption)) | exact .inr (.inr ⟨y, hy, by assumption⟩))]; simp⟩, hE_lo1, hv_v2⟩ (by show l.length - (i + 1) < l.length - i; omega)
      · refine FL.run (i := 4) [3] false (fun v_ _ => v_ = .int .i64 (i)) rfl rfl rfl (by kernel_rfl) (Stable.eq _) ?_ ?_
        · intro wb1 ho_wb1
          rintro _ rfl
          rw [decide_eq_false hg1]
          exact And.intro rfl (Eff.reads (Yield.move rfl rfl) rfl)
        refine FL.run (i := 5) [3] false (fun v_ _ => v_ = .pointer (some ⟨b1, 0, none⟩)) rfl rfl rfl (by kernel_rfl) (Stable.eq _) ?_ ?_
        · intro wb1 ho_wb1
          rintro _ rfl
          rw [decide_eq_false hg1]
          exact And.intro rfl (Eff.reads (Yield.fieldAt (k := 0) rfl rfl Try.runUnderlying41 rfl Try.sizeOf39 rfl) rfl)
        refine FL.run (i := 6) [5, 3] false (fun v_ _ => v_ = .slice (some ad) (l.length) (c_7)) rfl rfl rfl (by kernel_rfl) (Stable.eq _) ?_ ?_
        · intro wb1 ho_wb1
          rintro _ rfl
          rintro _ rfl
          rw [decide_eq_false hg1]
          have hb_b1 := ho_wb1.get hb_b1
          exact And.intro rfl (Eff.reads (Yield.load (v := .slice (some ad) (l.length) (c_7)) rfl rfl Try.isAgg39 (cell_get hb_b1 rfl)) rfl)
        refine FL.run (i := 7) [6, 3] false (fun v_ _ => v_ = .int .i64 (l.length)) rfl rfl rfl (by kernel_rfl) (Stable.eq _) ?_ ?_
        · intro wb1 ho_wb1
          rintro _ rfl
          rintro _ rfl
          rw [decide_eq_false hg1]
          exact And.intro rfl (Eff.reads (Yield.lenSlice rfl rfl Try.runUnderlying39) rfl)
        refine FL.run (i := 8) [7, 3] false (fun v_ _ => v_ = .int .i64 (l.length - 1)) rfl rfl rfl (by kernel_rfl) (Stable.eq _) ?_ ?_
        · intro wb1 ho_wb1
          rintro _ rfl
          rintro _ rfl
          rw [decide_eq_false hg1]
          exact And.intro rfl (Eff.reads (Yield.ar (v' := .int .i64 (l.length - 1)) rfl rfl rfl rfl (int_eq (wrap_i64 (by omega) (by omega)))) rfl)
        refine FL.run (i := 9) [4, 8, 3] false (fun v_ _ => v_ = .bool (decide (i + 1 = l.length))) rfl rfl rfl (by kernel_rfl) (Stable.eq _) ?_ ?_
        · intro wb1 ho_wb1
          rintro _ rfl
          rintro _ rfl
          rintro _ rfl
          rw [decide_eq_false hg1]
          exact And.intro rfl (Eff.reads (Yield.ar (v' := .bool (decide (i + 1 = l.length))) rfl rfl rfl rfl (bool_dec (by omega))) rfl)
        refine FL.run (i := 10) [3, 9] false (fun v_ _ => v_ = .bool (decide (i + 1 = l.length))) rfl rfl rfl (by kernel_rfl) (Stable.eq _) ?_ ?_
        · intro wb1 ho_wb1
          rintro _ rfl
          rw [decide_eq_false hg1]
          rintro _ rfl
          exact And.intro rfl (Eff.reads (Yield.pick_f rfl rfl rfl) rfl)
        refine FL.run (i := 11) [10] false (fun v_ _ => v_ = .bool (decide (i + 1 = l.length))) rfl rfl rfl (by kernel_rfl) (Stable.eq _) ?_ ?_
        · intro wb1 ho_wb1
          rintro _ rfl
          exact And.intro rfl (Eff.reads (Yield.move rfl rfl) rfl)
        by_cases hg2 : i + 1 = l.length
        · refine FL.skip (i := 12) [11] rfl rfl rfl (by kernel_rfl) ?_ ?_
          · intro wb1 ho_wb1
            rintro _ rfl
            rw [decide_eq_true hg2]
            exact rfl
          refine FL.skip (i := 13) [12, 11] rfl rfl rfl (by kernel_rfl) ?_ ?_
          · intro wb1 ho_wb1
            rintro _ rfl
            rintro _ rfl
            rw [decide_eq_true hg2]
            exact rfl
          refine FL.skip (i := 14) [11] rfl rfl rfl (by kernel_rfl) ?_ ?_
          · intro wb1 ho_wb1
            rintro _ rfl
            rw [decide_eq_true hg2]
            exact rfl
          refine FL.skip (i := 15) [14, 11] rfl rfl rfl (by kernel_rfl) ?_ ?_
          · intro wb1 ho_wb1
            rintro _ rfl
            rintro _ rfl
            rw [decide_eq_true hg2]
            exact rfl
          refine FL.skip (i := 16) [13, 15, 11] rfl rfl rfl (by kernel_rfl) ?_ ?_
          · intro wb1 ho_wb1
            rintro _ rfl
            rintro _ rfl
            rintro _ rfl
            rw [decide_eq_true hg2]
            exact rfl
          refine FL.skip (i := 17) [16, 11] rfl rfl rfl (by kernel_rfl) ?_ ?_
          · intro wb1 ho_wb1
            rintro _ rfl
            rintro _ rfl
            rw [decide_eq_true hg2]
            exact rfl
          refine FL.skip (i := 18) [17, 11] rfl rfl rfl (by kernel_rfl) ?_ ?_
          · intro wb1 ho_wb1
            rintro _ rfl
            rintro _ rfl
            rw [decide_eq_true hg2]
            exact rfl
          refine FL.skip (i := 19) [11] rfl rfl rfl (by kernel_rfl) ?_ ?_
          · intro wb1 ho_wb1
            rintro _ rfl
            rw [decide_eq_true hg2]
            exact rfl
          refine FL.skip (i := 20) [19, 11] rfl rfl rfl (by kernel_rfl) ?_ ?_
          · intro wb1 ho_wb1
            rintro _ rfl
            rintro _ rfl
            rw [decide_eq_true hg2]
            exact rfl
          refine FL.fin rfl [11, 18, 20] ?_
          intro w13 ho_w13
          rintro _ rfl
          rw [decide_eq_true hg2]
          rintro _ rfl
          rintro _ rfl
          intro _
          show WL _ _ _ _ _ _ _ _
          replace hb_b1 := ho_w13.get hb_b1
          replace hb_b2 := ho_w13.get hb_b2
          replace hb_b3 := ho_w13.get hb_b3
          replace hO := hO.ext ho_w13
          replace hv_7 := hv_7.ext ho_w13
          replace hv_v := hv_v.ext ho_w13
          replace hE_lo1 := hE_lo1.ext ho_w13
          refine WL.skip_g rfl rfl rfl ?_
          refine WL.yield rfl rfl rfl (Yield.pick_t rfl rfl rfl) ?_
          refine WL.fin ?_
          refine Nm.code ?_
          refine W.cond_true rfl ?_
          refine W.region ?_
          refine WL.yield rfl rfl rfl (Yield.move rfl rfl) ?_
          refine WL.yield rfl rfl rfl (Yield.loadAgg (cs := [.int .i64 (x.f), .int .u64 ((x.n.toNat : Int)), .int .u64 ((x.t.toNat : Int))]) rfl rfl Try.isAgg51 Try.sizeOf51 (blk_cells hb_b3 rfl)) ?_
          refine WL.eff _ rfl rfl (Eff.buildSlice (cs := [.int .i64 (x.f), .int .u64 ((x.n.toNat : Int)), .int .u64 ((x.t.toNat : Int))]) [.agg #[.int .i64 (x.f), .int .u64 ((x.n.toNat : Int)), .int .u64 ((x.t.toNat : Int))]] rfl rfl Try.runUnderlying39 Try.sizeOf51 Try.zeroValue51 rfl rfl rfl (List.forall_mem_cons.2 ⟨rfl, (fun _ h => nomatch h)⟩) rfl) ?_
          rintro _ w14 ⟨_, b5, rfl, hs_b5, rfl, he_w14⟩
          have hb_b5 : w14.heap[b5]? = some (.cells #[.int .i64 (x.f), .int .u64 ((x.n.toNat : Int)), .int .u64 ((x.t.toNat : Int))] 51 (0, 0)) := by rw [he_w14, hs_b5]; exact new_get _ _
          have ho_w14 : Ext w13 w14 := by rw [he_w14]; exact Ext.alloc _ _
          clear he_w14
          have hn_b5 : w.heap.size ≤ b5 := by rw [hs_b5]; exact hO.size
          have hn_b5_hE_lo1 : w5.heap.size ≤ b5 := by rw [hs_b5]; exact hE_lo1.size
          have hl_hv_7_b5 := Nw.below hv_7 (Nat.le_of_eq hs_b5.symm)
          have hl_hv_v_b5 := Nw.below hv_v (Nat.le_of_eq hs_b5.symm)
          have hq_b1_b5 : b1 < b5 := by rw [hs_b5]; exact blk_lt hb_b1
          have hq_b2_b5 : b2 < b5 := by rw [hs_b5]; exact blk_lt hb_b2
          have hq_b3_b5 : b3 < b5 := by rw [hs_b5]; exact blk_lt hb_b3
          replace hb_b1 := ho_w14.get hb_b1
          replace hb_b2 := ho_w14.get hb_b2
          replace hb_b3 := ho_w14.get hb_b3
          replace hO := hO.ext ho_w14
          replace hv_7 := hv_7.ext ho_w14
          replace hv_v := hv_v.ext ho_w14
          replace hE_lo1 := hE_lo1.ext ho_w14
          refine WL.eff _ rfl rfl (Eff.push (E := encEn) (xs := acc) (ys := [x]) (bytes := 24) (i := Try.t51) (z := .agg #[.int .i64 (0), .int .u64 (0), .int .u64 (0)]) rfl rfl rfl rfl Try.underlying39 Try.underlying39 (by kernel_rfl) rfl rfl rfl rfl hE_lo1 hE_lo1.size (Nat.le_refl _) hv_v (blk_rd (E := encEn) (l := [x]) hb_b5 rfl) rfl (by show (acc.length + 1) * _ ≤ _; omega)) ?_
          rintro v_v2 w15 ⟨hE_lo1, hv_v2, ho_w15⟩
          obtain ⟨A_v2, c_v2, rfl, hc_v2, hv_v2⟩ := hv_v2.toSl
          replace hb_b1 := Ext.get hE_lo1 hb_b1_lo1
          replace hb_b2 := Ext.get hE_lo1 hb_b2_lo1
          replace hO := hO_lo1.ext hE_lo1
          replace hv_7 := hv_7_lo1.ext hE_lo1
          refine WL.yield rfl rfl rfl (Yield.assign rfl rfl) ?_
          refine WL.fin ?_
          refine Nm.block ?_
          refine Nm.code ?_
          refine W.region ?_
          refine WL.yield rfl rfl rfl (Yield.ar (v' := .int .i64 (((i + 1 : Nat) : Int))) rfl rfl rfl rfl (int_eq (by rw [wrap_i64 (by omega) (by omega)]; omega))) ?_
          refine WL.yield rfl rfl rfl (Yield.move rfl rfl) ?_
          refine WL.fin ?_
          refine Nm.again ⟨i + 1, acc ++ [x], A_v2, c_v2⟩ (Env.has_cons rfl (Env.has_cons rfl (Env.has_cons rfl (Env.has_cons rfl (Env.has_cons rfl (Env.has_cons rfl (Env.has_cons rfl Env.has_nil))))))) ⟨⟨by omega, by simp; omega, by rw [← hp.2.2, purge_yes hx (by first | exact .inl (by assumption) | exact .inr (.inl (by assumption)) | exact .inr (.inr ⟨y, hy, by assumption⟩))]; simp⟩, hE_lo1, hv_v2⟩ (by show l.length - (i + 1) < l.length - i; omega)
        · have hlt_y : (i + 1) < l.length := by omega
          obtain ⟨y, hy⟩ := getD_some hlt_y
          refine FL.run (i := 12) [11] false (fun v_ _ => v_ = .pointer (some ⟨b1, 0, none⟩)) rfl rfl rfl (by kernel_rfl) (Stable.eq _) ?_ ?_
          · intro wb1 ho_wb1
            rintro _ rfl
            rw [decide_eq_false hg2]
            exact And.intro rfl (Eff.reads (Yield.fieldAt (k := 0) rfl rfl Try.runUnderlying41 rfl Try.sizeOf39 rfl) rfl)
          refine FL.run (i := 13) [12, 11] false (fun v_ _ => v_ = .slice (some ad) (l.length) (c_7)) rfl rfl rfl (by kernel_rfl) (Stable.eq _) ?_ ?_
          · intro wb1 ho_wb1
            rintro _ rfl
            rintro _ rfl
            rw [decide_eq_false hg2]
            have hb_b1 := ho_wb1.get hb_b1
            exact And.intro rfl (Eff.reads (Yield.load (v := .slice (some ad) (l.length) (c_7)) rfl rfl Try.isAgg39 (cell_get hb_b1 rfl)) rfl)
          refine FL.run (i := 14) [11] false (fun v_ _ => v_ = .int .i64 (i)) rfl rfl rfl (by kernel_rfl) (Stable.eq _) ?_ ?_
          · intro wb1 ho_wb1
            rintro _ rfl
            rw [decide_eq_false hg2]
            exact And.intro rfl (Eff.reads (Yield.move rfl rfl) rfl)
          refine FL.run (i := 15) [14, 11] false (fun v_ _ => v_ = .int .i64 (((i + 1 : Nat) : Int))) rfl rfl rfl (by kernel_rfl) (Stable.eq _) ?_ ?_
          · intro wb1 ho_wb1
            rintro _ rfl
            rintro _ rfl
            rw [decide_eq_false hg2]
            exact And.intro rfl (Eff.reads (Yield.ar (v' := .int .i64 (((i + 1 : Nat) : Int))) rfl rfl rfl rfl (int_eq (by rw [wrap_i64 (by omega) (by omega)]; omega))) rfl)
          refine FL.run (i := 16) [13, 15, 11] false (fun v_ _ => v_ = .pointer (some ((ad).add ((i + 1) * 3)))) rfl rfl rfl (by kernel_rfl) (Stable.eq _) ?_ ?_
          · intro wb1 ho_wb1
            rintro _ rfl
            rintro _ rfl
            rintro _ rfl
            rw [decide_eq_false hg2]
            exact And.intro rfl (Eff.reads (Yield.indexNat (i + 1) rfl rfl rfl Try.runUnderlying39 Try.sizeOf51 (by omega)) rfl)
          refine FL.run (i := 17) [16, 11] false (fun v_ _ => v_ = .pointer (some (((ad).add ((i + 1) * 3)).add 0))) rfl rfl rfl (by kernel_rfl) (Stable.eq _) ?_ ?_
          · intro wb1 ho_wb1
            rintro _ rfl
            rintro _ rfl
            rw [decide_eq_false hg2]
            exact And.intro rfl (Eff.reads (Yield.fieldAddr rfl rfl Try.runUnderlying51 rfl Try.sizeOf3) rfl)
          refine FL.run (i := 18) [17, 11] false (fun v_ _ => v_ = .int .i64 (y.f)) rfl rfl rfl (by kernel_rfl) (Stable.eq _) ?_ ?_
          · intro wb1 ho_wb1
            rintro _ rfl
            rintro _ rfl
            rw [decide_eq_false hg2]
            have hv_7 := hv_7.ext ho_wb1
            exact And.intro rfl (Eff.reads (Yield.load (v := .int .i64 (y.f)) rfl rfl Try.isAgg3 (Rd.at0 (Nw.rd hv_7) hy rfl)) rfl)
          refine FL.run (i := 19) [11] false (fun v_ _ => v_ = .pointer (some ⟨b3, 0, none⟩)) rfl rfl rfl (by kernel_rfl) (Stable.eq _) ?_ ?_
          · intro wb1 ho_wb1
            rintro _ rfl
            rw [decide_eq_false hg2]
            exact And.intro rfl (Eff.reads (Yield.fieldAt (k := 0) rfl rfl Try.runUnderlying51 rfl Try.sizeOf3 rfl) rfl)
          refine FL.run (i := 20) [19, 11] false (fun v_ _ => v_ = .int .i64 (x.f)) rfl rfl rfl (by kernel_rfl) (Stable.eq _) ?_ ?_
          · intro wb1 ho_wb1
            rintro _ rfl
            rintro _ rfl
            rw [decide_eq_false hg2]
            have hb_b3 := ho_wb1.get hb_b3
            exact And.intro rfl (Eff.reads (Yield.load (v := .int .i64 (x.f)) rfl rfl Try.isAgg3 (cell_get hb_b3 rfl)) rfl)
          refine FL.fin rfl [11, 18, 20] ?_
          intro w16 ho_w16
          rintro _ rfl
          rw [decide_eq_false hg2]
          rintro _ rfl
          rintro _ rfl
          intro _
          show WL _ _ _ _ _ _ _ _
          replace hb_b1 := ho_w16.get hb_b1
          replace hb_b2 := ho_w16.get hb_b2
          replace hb_b3 := ho_w16.get hb_b3
          replace hO := hO.ext ho_w16
          replace hv_7 := hv_7.ext ho_w16
          replace hv_v := hv_v.ext ho_w16
          replace hE_lo1 := hE_lo1.ext ho_w16
          refine WL.yield_g rfl rfl rfl (Yield.bin rfl rfl rfl rfl) ?_
          refine WL.yield rfl rfl rfl (Yield.pick_f rfl rfl rfl) ?_
          refine WL.fin ?_
          refine Nm.code ?_
          refine W.cond_dec rfl (fun hc2 => ?_) (fun hc2 => ?_)
          · refine W.region ?_
            refine WL.yield rfl rfl rfl (Yield.move rfl rfl) ?_
            refine WL.yield rfl rfl rfl (Yield.loadAgg (cs := [.int .i64 (x.f), .int .u64 ((x.n.toNat : Int)), .int .u64 ((x.t.toNat : Int))]) rfl rfl Try.isAgg51 Try.sizeOf51 (blk_cells hb_b3 rfl)) ?_
            refine WL.eff _ rfl rfl (Eff.buildSlice (cs := [.int .i64 (x.f), .int .u64 ((x.n.toNat : Int)), .int .u64 ((x.t.toNat : Int))]) [.agg #[.int .i64 (x.f), .int .u64 ((x.n.toNat : Int)), .int .u64 ((x.t.toNat : Int))]] rfl rfl Try.runUnderlying39 Try.sizeOf51 Try.zeroValue51 rfl rfl rfl (List.forall_mem_cons.2 ⟨rfl, (fun _ h => nomatch h)⟩) rfl) ?_
            rintro _ w17 ⟨_, b6, rfl, hs_b6, rfl, he_w17⟩
            have hb_b6 : w17.heap[b6]? = some (.cells #[.int .i64 (x.f), .int .u64 ((x.n.toNat : Int)), .int .u64 ((x.t.toNat : Int))] 51 (0, 0)) := by rw [he_w17, hs_b6]; exact new_get _ _
            have ho_w17 : Ext w16 w17 := by rw [he_w17]; exact Ext.alloc _ _
            clear he_w17
            have hn_b6 : w.heap.size ≤ b6 := by rw [hs_b6]; exact hO.size
            have hn_b6_hE_lo1 : w5.heap.size ≤ b6 := by rw [hs_b6]; exact hE_lo1.size
            have hl_hv_7_b6 := Nw.below hv_7 (Nat.le_of_eq hs_b6.symm)
            have hl_hv_v_b6 := Nw.below hv_v (Nat.le_of_eq hs_b6.symm)
            have hq_b1_b6 : b1 < b6 := by rw [hs_b6]; exact blk_lt hb_b1
            have hq_b2_b6 : b2 < b6 := by rw [hs_b6]; exact blk_lt hb_b2
            have hq_b3_b6 : b3 < b6 := by rw [hs_b6]; exact blk_lt hb_b3
            replace hb_b1 := ho_w17.get hb_b1
            replace hb_b2 := ho_w17.get hb_b2
            replace hb_b3 := ho_w17.get hb_b3
            replace hO := hO.ext ho_w17
            replace hv_7 := hv_7.ext ho_w17
            replace hv_v := hv_v.ext ho_w17
            replace hE_lo1 := hE_lo1.ext ho_w17
            refine WL.eff _ rfl rfl (Eff.push (E := encEn) (xs := acc) (ys := [x]) (bytes := 24) (i := Try.t51) (z := .agg #[.int .i64 (0), .int .u64 (0), .int .u64 (0)]) rfl rfl rfl rfl Try.underlying39 Try.underlying39 (by kernel_rfl) rfl rfl rfl rfl hE_lo1 hE_lo1.size (Nat.le_refl _) hv_v (blk_rd (E := encEn) (l := [x]) hb_b6 rfl) rfl (by show (acc.length + 1) * _ ≤ _; omega)) ?_
            rintro v_v2 w18 ⟨hE_lo1, hv_v2, ho_w18⟩
            obtain ⟨A_v2, c_v2, rfl, hc_v2, hv_v2⟩ := hv_v2.toSl
            replace hb_b1 := Ext.get hE_lo1 hb_b1_lo1
            replace hb_b2 := Ext.get hE_lo1 hb_b2_lo1
            replace hO := hO_lo1.ext hE_lo1
            replace hv_7 := hv_7_lo1.ext hE_lo1
            refine WL.yield rfl rfl rfl (Yield.assign rfl rfl) ?_
            refine WL.fin ?_
            refine Nm.block ?_
            refine Nm.code ?_
            refine W.region ?_
            refine WL.yield rfl rfl rfl (Yield.ar (v' := .int .i64 (((i + 1 : Nat) : Int))) rfl rfl rfl rfl (int_eq (by rw [wrap_i64 (by omega) (by omega)]; omega))) ?_
            refine WL.yield rfl rfl rfl (Yield.move rfl rfl) ?_
            refine WL.fin ?_
            refine Nm.again ⟨i + 1, acc ++ [x], A_v2, c_v2⟩ (Env.has_cons rfl (Env.has_cons rfl (Env.has_cons rfl (Env.has_cons rfl (Env.has_cons rfl (Env.has_cons rfl (Env.has_cons rfl Env.has_nil))))))) ⟨⟨by omega, by simp; omega, by rw [← hp.2.2, purge_yes hx (by first | exact .inl (by assumption) | exact .inr (.inl (by assumption)) | exact .inr (.inr ⟨y, hy, by assumption⟩))]; simp⟩, hE_lo1, hv_v2⟩ (by show l.length - (i + 1) < l.length - i; omega)
          · refine W.skipN ?_
            refine Nm.block ?_
            refine Nm.code ?_
            refine W.region ?_
            refine WL.yield rfl rfl rfl (Yield.ar (v' := .int .i64 (((i + 1 : Nat) : Int))) rfl rfl rfl rfl (int_eq (by rw [wrap_i64 (by omega) (by omega)]; omega))) ?_
            refine WL.yield rfl rfl rfl (Yield.move rfl rfl) ?_
            refine WL.fin ?_
            refine Nm.again ⟨i + 1, acc, A_v, c_v⟩ (Env.has_cons rfl (Env.has_cons rfl (Env.has_cons rfl (Env.has_cons rfl (Env.has_cons rfl (Env.has_cons rfl (Env.has_cons rfl Env.has_nil))))))) ⟨⟨by omega, by omega, by rw [← hp.2.2, purge_no hx hg1 hy (by first | assumption | omega)]⟩, hE_lo1, hv_v⟩ (by show l.length - (i + 1) < l.length - i; omega)
    · refine W.exitX ?_
      refine Ex.thenX ?_
      refine Ex.thenX ?_
      refine Ex.hit ?_
      refine Nm.code ?_
      refine W.seq ?_
      refine W.region ?_
      refine WL.yield rfl rfl rfl (Yield.move rfl rfl) ?_
      refine WL.yield rfl rfl rfl (Yield.build (cells := #[.slice (A_v) (acc.length) (c_v)]) rfl rfl (by kernel_rfl)) ?_
      refine WL.eff _ rfl rfl (Eff.storeBlk (vs := [.slice (A_v) (acc.length) (c_v)]) (cs := [.slice (none) (0) (0)]) (cs' := [.slice (A_v) (acc.length) (c_v)]) rfl rfl rfl Try.sizeOf41 rfl (List.forall_mem_cons.2 ⟨rfl, (fun _ h => nomatch h)⟩) hb_b2 rfl rfl) ?_
      rintro _ w19 ⟨ho_w19, hb_new⟩
      replace hb_b1 := ho_w19.get hb_b1 (by omega)
      replace hb_b2 := hb_new
      replace hO := hO.trans ho_w19 (by intro i hi1 hi2; first | exact hi2 | (exfalso; omega) | (left; exact hi2) | (right; exact hi2) | (right; left; exact hi2))
      replace hv_7 := hv_7.only ho_w19 (fun q hq h => absurd (show q = b2 from h) (by have := hv_7.2 q hq; omega))
      replace hv_v := hv_v.only ho_w19 (fun q hq h => absurd (show q = b2 from h) (by have := hv_v.2 q hq; omega))
      refine WL.fin ?_
      refine Nm.code ?_
      refine W.ret_postW (fun _ _ h => h) Try.results22 (resW_cell rfl (loadVar_agg (cs := [.slice (A_v) (acc.length) (c_v)]) Try.isAgg41 Try.sizeOf41 (blk_cells hb_b2 rfl)) resW_nil) ?_
      rw [purge_end (by omega), List.append_nil] at hp
      refine ⟨hO, ?_⟩
      unfold purgeT
      rw [if_pos (by simpa using hc0), ← hp.2.2]
      exact (hv_v.le hz_w5).toLg

end Go.Proofs.Ytpnoddfjklcahaa
