import Derived.Test.YtpnoddfjklcahaaTr6
import Derived.Test.YtpnoddfjklcahaaDa2
import Derived.Test.YtpnoddfjklcahaaLay

set_option linter.all false
namespace Go.Proofs.Ytpnoddfjklcahaa
open Go Go.Lv Go.RowKit Go.Shoal

open Go.Proofs Go.Shelf Go.Sort
instance : Inhabited En := ⟨⟨0, 0, 0⟩⟩


theorem sort_log (w : World) {B : Nat} {l : List En} {A : Option Addr} {c : Nat} (hr : Nw B encEn 51 l (.slice A l.length c) w) (hlen : l.length ≤ 1000000) :
    Fc Try.prog 71 #[.slice A l.length c, .func (.func 67) #[] #[]] w fun _ w' => Only (fun k => (Value.slice A l.length c).ownBlock = some k) w w' ∧ ∃ l' : List En, l'.length = l.length ∧ l'.Perm l ∧ (∀ (i j : Nat) (x y : En), i < j → l'[i]? = some x → l'[j]? = some y → ¬ ord y x < 0) ∧ Nw B encEn 51 l' (.slice A l'.length c) w' :=
  sort_any (E := encEn) (P := Try.prog) Try.sortEn rfl Try.isAgg51 Try.sizeOf51 ord ord_swo 67 Try.call67 (fun w x y => order_any w x y) hr hlen

theorem join_any (w : World) (A : Option Addr) (c : Nat) (l : List En) (hr : Rd encEn w A l) (hlen : l.length ≤ 100000) (A2 : Option Addr) (c2 : Nat) (l2 : List En) (hr2 : Rd encEn w A2 l2) (hlen2 : l2.length ≤ 100000) :
    Fc Try.prog 25 #[.agg #[.slice (A) (l.length) (c)], .agg #[.slice (A2) (l2.length) (c2)]] w (fun v w' => Ext w w' ∧ NwLg w.heap.size encEn 51 (joinT l l2) v w') := by
  refine Fc.enter (args := [.agg #[.slice (A) (l.length) (c)], .agg #[.slice (A2) (l2.length) (c2)]]) Try.func25 rfl Try.ntmps25 rfl ?_
  intro K_
  have hO : Only (fun _ => False) w w := Only.refl _ _
  refine W.seq ?_
  refine W.region ?_
  refine WL.eff _ rfl rfl (Eff.box rfl rfl) ?_
  rintro _ w1 ⟨_, b1, rfl, hs_b1, rfl, he_w1⟩
  have hb_b1 : w1.heap[b1]? = some (.cells #[.slice (A) (l.length) (c)] 41 (0, 0)) := by rw [he_w1, hs_b1]; exact new_get _ _
  have ho_w1 : Ext w w1 := by rw [he_w1]; exact Ext.alloc _ _
  clear he_w1
  have hn_b1 : w.heap.size ≤ b1 := by rw [hs_b1]; exact hO.size
  replace hO := hO.ext ho_w1
  refine WL.eff _ rfl rfl (Eff.box rfl rfl) ?_
  rintro _ w2 ⟨_, b2, rfl, hs_b2, rfl, he_w2⟩
  have hb_b2 : w2.heap[b2]? = some (.cells #[.slice (A2) (l2.length) (c2)] 41 (0, 0)) := by rw [he_w2, hs_b2]; exact new_get _ _
  have ho_w2 : Ext w1 w2 := by rw [he_w2]; exact Ext.alloc _ _
  clear he_w2
  have hn_b2 : w.heap.size ≤ b2 := by rw [hs_b2]; exact hO.size
  have hq_b1_b2 : b1 < b2 := by rw [hs_b2]; exact blk_lt hb_b1
  replace hb_b1 := ho_w2.get hb_b1
  replace hO := hO.ext ho_w2
  refine WL.eff _ rfl rfl (Eff.alloc rfl Try.zeroValue41) ?_
  rintro _ w3 ⟨_, b3, rfl, hs_b3, rfl, he_w3⟩
  have hb_b3 : w3.heap[b3]? = some (.cells #[.slice (none) (0) (0)] 41 (0, 0)) := by rw [he_w3, hs_b3]; exact new_get _ _
  have ho_w3 : Ext w2 w3 := by rw [he_w3]; exact Ext.alloc _ _
  clear he_w3
  have hn_b3 : w.heap.size ≤ b3 := by rw [hs_b3]; exact hO.size
  have hq_b1_b3 : b1 < b3 := by rw [hs_b3]; exact blk_lt hb_b1
  have hq_b2_b3 : b2 < b3 := by rw [hs_b3]; exact blk_lt hb_b2
  replace hb_b1 := ho_w3.get hb_b1
  replace hb_b2 := ho_w3.get hb_b2
  replace hO := hO.ext ho_w3
  refine WL.fin ?_
  refine Nm.code ?_
  refine W.seq ?_
  refine W.seq ?_
  refine W.region ?_
  refine WL.yield rfl rfl rfl (Yield.loadAgg (cs := [.slice (A) (l.length) (c)]) rfl rfl Try.isAgg41 Try.sizeOf41 (blk_cells hb_b1 rfl)) ?_
  refine WL.eff _ rfl rfl (Eff.fn rfl rfl Try.call21 (by rintro _ rfl; exact good_any _ _ _ _ (hr.ext hO) hlen)) ?_
  have hlt_b1_w3 : b1 < w3.heap.size := blk_lt hb_b1
  have hlt_b2_w3 : b2 < w3.heap.size := blk_lt hb_b2
  have hlt_b3_w3 : b3 < w3.heap.size := blk_lt hb_b3
  have hz_w3 := hO.size
  rintro _ w4 ⟨ho_w4, rfl⟩
  replace hb_b1 := ho_w4.get hb_b1
  replace hb_b2 := ho_w4.get hb_b2
  replace hb_b3 := ho_w4.get hb_b3
  replace hO := hO.ext ho_w4
  refine WL.yield rfl rfl rfl (Yield.not rfl rfl) ?_
  refine WL.yield rfl rfl rfl (Yield.move rfl rfl) ?_
  rcases Bool.eq_false_or_eq_true (!(good l)) with hgl0 | hgl0
  · rw [hgl0]
    refine WL.skip_g rfl rfl rfl ?_
    refine WL.skip_g rfl rfl rfl ?_
    refine WL.skip_g rfl rfl rfl ?_
    refine WL.yield rfl rfl rfl (Yield.pick_t rfl rfl rfl) ?_
    refine WL.fin ?_
    refine Nm.code ?_
    refine W.cond_true rfl ?_
    refine W.seq ?_
    refine W.region ?_
    refine WL.yield rfl rfl rfl (Yield.loadAgg (cs := [.slice (A) (l.length) (c)]) rfl rfl Try.isAgg41 Try.sizeOf41 (blk_cells hb_b1 rfl)) ?_
    refine WL.eff _ rfl rfl (Eff.fn rfl rfl Try.call68 (by rintro _ rfl; exact clone_log _ _ _ _ (hr.ext hO) hlen)) ?_
    have hlt_b1_w4 : b1 < w4.heap.size := blk_lt hb_b1
    have hlt_b2_w4 : b2 < w4.heap.size := blk_lt hb_b2
    have hlt_b3_w4 : b3 < w4.heap.size := blk_lt hb_b3
    have hz_w4 := hO.size
    rintro _ w5 ⟨ho_w5, ⟨A_19, c_19, rfl, hc_19, hv_19⟩⟩
    replace hb_b1 := ho_w5.get hb_b1
    replace hb_b2 := ho_w5.get hb_b2
    replace hb_b3 := ho_w5.get hb_b3
    replace hO := hO.ext ho_w5
    refine WL.eff _ rfl rfl (Eff.storeBlk (vs := [.slice (A_19) (l.length) (c_19)]) (cs := [.slice (none) (0) (0)]) (cs' := [.slice (A_19) (l.length) (c_19)]) rfl rfl rfl Try.sizeOf41 rfl (List.forall_mem_cons.2 ⟨rfl, (fun _ h => nomatch h)⟩) hb_b3 rfl rfl) ?_
    rintro _ w6 ⟨ho_w6, hb_new⟩
    replace hb_b1 := ho_w6.get hb_b1 (by omega)
    replace hb_b2 := ho_w6.get hb_b2 (by omega)
    replace hb_b3 := hb_new
    replace hO := hO.trans ho_w6 (by intro i hi1 hi2; first | exact hi2 | (exfalso; omega) | (left; exact hi2) | (right; exact hi2) | (right; left; exact hi2))
    replace hv_19 := hv_19.only ho_w6 (fun q hq h => absurd (show q = b3 from h) (by have := hv_19.2 q hq; omega))
    refine WL.fin ?_
    refine Nm.code ?_
    refine W.ret_postW (fun _ _ h => h) Try.results25 (resW_cell rfl (loadVar_agg (cs := [.slice (A_19) (l.length) (c_19)]) Try.isAgg41 Try.sizeOf41 (blk_cells hb_b3 rfl)) resW_nil) ?_
    have hj : joinT l l2 = l := by unfold joinT; rw [if_neg]; simp_all
    rw [hj]
    exact ⟨hO, _, _, rfl, hc_19, hv_19.le (by omega)⟩
  · rw [hgl0]
    refine WL.yield_g rfl rfl rfl (Yield.loadAgg (cs := [.slice (A2) (l2.length) (c2)]) rfl rfl Try.isAgg41 Try.sizeOf41 (blk_cells hb_b2 rfl)) ?_
    refine WL.eff _ rfl rfl (Eff.fn rfl rfl Try.call21 (by rintro _ rfl; exact good_any _ _ _ _ (hr2.ext hO) hlen2)) ?_
    have hlt_b1_w4 : b1 < w4.heap.size := blk_lt hb_b1
    have hlt_b2_w4 : b2 < w4.heap.size := blk_lt hb_b2
    have hlt_b3_w4 : b3 < w4.heap.size := blk_lt hb_b3
    have hz_w4 := hO.size
    rintro _ w7 ⟨ho_w7, rfl⟩
    replace hb_b1 := ho_w7.get hb_b1
    replace hb_b2 := ho_w7.get hb_b2
    replace hb_b3 := ho_w7.get hb_b3
    replace hO := hO.ext ho_w7
    refine WL.yield_g rfl rfl rfl (Yield.not rfl rfl) ?_
    refine WL.yield rfl rfl rfl (Yield.pick_f rfl rfl rfl) ?_
    refine WL.fin ?_
    refine Nm.code ?_
    refine W.cond rfl (fun hgh0 => ?_) (fun hgh0 => ?_)
    · refine W.seq ?_
      refine W.region ?_
      refine WL.yield rfl rfl rfl (Yield.loadAgg (cs := [.slice (A) (l.length) (c)]) rfl rfl Try.isAgg41 Try.sizeOf41 (blk_cells hb_b1 rfl)) ?_
      refine WL.eff _ rfl rfl (Eff.fn rfl rfl Try.call68 (by rintro _ rfl; exact clone_log _ _ _ _ (hr.ext hO) hlen)) ?_
      have hlt_b1_w7 : b1 < w7.heap.size := blk_lt hb_b1
      have hlt_b2_w7 : b2 < w7.heap.size := blk_lt hb_b2
      have hlt_b3_w7 : b3 < w7.heap.size := blk_lt hb_b3
      have hz_w7 := hO.size
      rintro _ w8 ⟨ho_w8, ⟨A_19, c_19, rfl, hc_19, hv_19⟩⟩
      replace hb_b1 := ho_w8.get hb_b1
      replace hb_b2 := ho_w8.get hb_b2
      replace hb_b3 := ho_w8.get hb_b3
      replace hO := hO.ext ho_w8
      refine WL.eff _ rfl rfl (Eff.storeBlk (vs := [.slice (A_19) (l.length) (c_19)]) (cs := [.slice (none) (0) (0)]) (cs' := [.slice (A_19) (l.length) (c_19)]) rfl rfl rfl Try.sizeOf41 rfl (List.forall_mem_cons.2 ⟨rfl, (fun _ h => nomatch h)⟩) hb_b3 rfl rfl) ?_
      rintro _ w9 ⟨ho_w9, hb_new⟩
      replace hb_b1 := ho_w9.get hb_b1 (by omega)
      replace hb_b2 := ho_w9.get hb_b2 (by omega)
      replace hb_b3 := hb_new
      replace hO := hO.trans ho_w9 (by intro i hi1 hi2; first | exact hi2 | (exfalso; omega) | (left; exact hi2) | (right; exact hi2) | (right; left; exact hi2))
      replace hv_19 := hv_19.only ho_w9 (fun q hq h => absurd (show q = b3 from h) (by have := hv_19.2 q hq; omega))
      refine WL.fin ?_
      refine Nm.code ?_
      refine W.ret_postW (fun _ _ h => h) Try.results25 (resW_cell rfl (loadVar_agg (cs := [.slice (A_19) (l.length) (c_19)]) Try.isAgg41 Try.sizeOf41 (blk_cells hb_b3 rfl)) resW_nil) ?_
      have hj : joinT l l2 = l := by unfold joinT; rw [if_neg]; simp_all
      rw [hj]
      exact ⟨hO, _, _, rfl, hc_19, hv_19.le (by omega)⟩
    · have hgl : good l = true := by simpa using hgl0
      have hgh : good l2 = true := by simpa using hgh0
      refine W.skipN ?_
      refine Nm.code ?_
      refine W.seq ?_
      have hlt_b1_w7 : b1 < w7.heap.size := blk_lt hb_b1
      have hlt_b2_w7 : b2 < w7.heap.size := blk_lt hb_b2
      have hlt_b3_w7 : b3 < w7.heap.size := blk_lt hb_b3
      have hz_w7 := hO.size
      have hb_b1_jb := hb_b1
      have hb_b2_jb := hb_b2
      have hb_b3_jb := hb_b3
      have hO_jb := hO
      refine W.region_flat 5 Try_follows (by kernel_rfl) (by kernel_rfl) rfl ?_
      refine FL.run (i := 0) [] false (fun v_ _ => v_ = .agg #[.slice (A) (l.length) (c)]) rfl rfl rfl (by kernel_rfl) (Stable.eq _) ?_ ?_
      · intro wb1 ho_wb1
        have hb_b1 := ho_wb1.get hb_b1
        exact And.intro rfl (Eff.reads (Yield.loadAgg (cs := [.slice (A) (l.length) (c)]) rfl rfl Try.isAgg41 Try.sizeOf41 (blk_cells hb_b1 rfl)) rfl)
      refine FL.run (i := 1) [] false (fun v_ _ => v_ = .agg #[.slice (A2) (l2.length) (c2)]) rfl rfl rfl (by kernel_rfl) (Stable.eq _) ?_ ?_
      · intro wb1 ho_wb1
        have hb_b2 := ho_wb1.get hb_b2
        exact And.intro rfl (Eff.reads (Yield.loadAgg (cs := [.slice (A2) (l2.length) (c2)]) rfl rfl Try.isAgg41 Try.sizeOf41 (blk_cells hb_b2 rfl)) rfl)
      refine FL.run (i := 2) [0, 1] true (NwSl w7.heap.size encEn 51 (newsL l l2)) rfl rfl rfl (by kernel_rfl) (NwSl.stable _ _ _ _) ?_ ?_
      · intro wb1 ho_wb1
        rintro _ rfl
        rintro _ rfl
        have hO := hO.ext ho_wb1
        exact And.intro rfl (Eff.callsSl w7.heap.size ho_wb1.size (Eff.fn rfl rfl Try.call69 (by rintro _ rfl; exact news_any _ _ _ _ (hr.ext hO) hlen _ _ _ (hr2.ext hO) hlen2 hgh)))
      refine FL.run (i := 3) [] false (fun v_ _ => v_ = .agg #[.slice (A2) (l2.length) (c2)]) rfl rfl rfl (by kernel_rfl) (Stable.eq _) ?_ ?_
      · intro wb1 ho_wb1
        have hb_b2 := ho_wb1.get hb_b2
        exact And.intro rfl (Eff.reads (Yield.loadAgg (cs := [.slice (A2) (l2.length) (c2)]) rfl rfl Try.isAgg41 Try.sizeOf41 (blk_cells hb_b2 rfl)) rfl)
      refine FL.run (i := 4) [] false (fun v_ _ => v_ = .agg #[.slice (A) (l.length) (c)]) rfl rfl rfl (by kernel_rfl) (Stable.eq _) ?_ ?_
      · intro wb1 ho_wb1
        have hb_b1 := ho_wb1.get hb_b1
        exact And.intro rfl (Eff.reads (Yield.loadAgg (cs := [.slice (A) (l.length) (c)]) rfl rfl Try.isAgg41 Try.sizeOf41 (blk_cells hb_b1 rfl)) rfl)
      refine FL.fin rfl [2, 3, 4] ?_
      intro w10 ho_w10
      rintro _ ⟨A_22, c_22, rfl, hc_22, hv_22⟩
      rintro _ rfl
      rintro _ rfl
      intro _
      show WL _ _ _ _ _ _ _ _
      replace hb_b1 := ho_w10.get hb_b1
      replace hb_b2 := ho_w10.get hb_b2
      replace hb_b3 := ho_w10.get hb_b3
      replace hO := hO.ext ho_w10
      have hE_jb := ho_w10
      refine WL.eff _ rfl rfl (Eff.fn rfl rfl Try.call69 (by rintro _ rfl; exact news_any _ _ _ _ (hr2.ext hO) hlen2 _ _ _ (hr.ext hO) hlen hgl)) ?_
      have hlt_b1_w10 : b1 < w10.heap.size := blk_lt hb_b1
      have hlt_b2_w10 : b2 < w10.heap.size := blk_lt hb_b2
      have hlt_b3_w10 : b3 < w10.heap.size := blk_lt hb_b3
      have hz_w10 := hO.size
      rintro _ w11 ⟨ho_w11, ⟨A_25, c_25, rfl, hc_25, hv_25⟩⟩
      replace hb_b1 := ho_w11.get hb_b1
      replace hb_b2 := ho_w11.get hb_b2
      replace hb_b3 := ho_w11.get hb_b3
      replace hO := hO.ext ho_w11
      replace hv_22 := hv_22.ext ho_w11
      replace hE_jb := hE_jb.ext ho_w11
      refine WL.eff _ rfl rfl (Eff.push (E := encEn) (xs := (newsL l l2)) (ys := (newsL l2 l)) (bytes := 24) (i := Try.t51) (z := .agg #[.int .i64 (0), .int .u64 (0), .int .u64 (0)]) rfl rfl rfl rfl Try.underlying39 Try.underlying39 (by kernel_rfl) rfl rfl rfl rfl hE_jb hE_jb.size (Nat.le_refl _) hv_22 (hv_25.rd) rfl (by have h1 := news_len l l2; have h2 := news_len l2 l; omega)) ?_
      rintro v_o w12 ⟨hE_jb, hv_o, ho_w12⟩
      obtain ⟨A_o, c_o, rfl, hc_o, hv_o⟩ := hv_o.toSl
      replace hb_b1 := Ext.get hE_jb hb_b1_jb
      replace hb_b2 := Ext.get hE_jb hb_b2_jb
      replace hb_b3 := Ext.get hE_jb hb_b3_jb
      replace hO := hO_jb.ext hE_jb
      refine WL.yield rfl rfl rfl (Yield.assign rfl rfl) ?_
      refine WL.fin ?_
      refine Nm.code ?_
      refine W.seq ?_
      refine W.seq ?_
      refine W.region ?_
      refine WL.yield rfl rfl rfl (Yield.fieldAt (k := 0) rfl rfl Try.runUnderlying41 rfl Try.sizeOf39 rfl) ?_
      refine WL.yield rfl rfl rfl (Yield.load (v := .slice (A) (l.length) (c)) rfl rfl Try.isAgg39 (cell_get hb_b1 rfl)) ?_
      refine WL.yield rfl rfl rfl (Yield.lenSlice rfl rfl Try.runUnderlying39) ?_
      refine WL.yield rfl rfl rfl (Yield.move rfl rfl) ?_
      refine WL.fin ?_
      refine Nm.code ?_
      refine W.block ?_
      have heq0 : newsL l l2 ++ newsL l2 l = (newsL l l2 ++ newsL l2 l ++ bothL (l.take 0) l2) := by simp [bothL]
      have hz_w12 := hO.size
      have hlt_b1_w12 : b1 < w12.heap.size := blk_lt hb_b1
      have hlt_b2_w12 : b2 < w12.heap.size := blk_lt hb_b2
      have hlt_b3_w12 : b3 < w12.heap.size := blk_lt hb_b3
      refine W.loop (σ := Nat × Option Addr × Nat) (fun ⟨i, A_v, c_v⟩ => [(3, .pointer (some ⟨b2, 0, none⟩)), (4, .pointer (some ⟨b3, 0, none⟩)), (17, .bool (!(good l2))), (28, .slice (A) (l.length) (c)), (29, .int .i64 (l.length)), (30, .int .i64 (i)), (5, .slice (A_v) ((newsL l l2 ++ newsL l2 l ++ bothL (l.take i) l2).length) (c_v))]) (fun ⟨i, A_v, c_v⟩ ww => ((i ≤ l.length) ∧ Ext w7 ww ∧ Nw w7.heap.size encEn 51 (newsL l l2 ++ newsL l2 l ++ bothL (l.take i) l2) (.slice A_v (newsL l l2 ++ newsL l2 l ++ bothL (l.take i) l2).length c_v) ww)) (fun ⟨i, A_v, c_v⟩ => (l.length - i)) ⟨0, A_o, c_o⟩ (Env.has_cons rfl (Env.has_cons rfl (Env.has_cons rfl (Env.has_cons rfl (Env.has_cons rfl (Env.has_cons rfl (Env.has_cons (congrArg (fun q => some (Value.slice A_o (List.length q) c_o)) heq0) Env.has_nil))))))) ⟨Nat.zero_le _, hE_jb, (heq0 ▸ hv_o)⟩ ?_
      rintro ⟨i, A_v, c_v⟩ w13 ⟨hp, hE_jb, hv_v⟩
      replace hb_b1 := Ext.get hE_jb hb_b1_jb
      replace hb_b2 := Ext.get hE_jb hb_b2_jb
      replace hb_b3 := Ext.get hE_jb hb_b3_jb
      replace hO := hO_jb.ext hE_jb
      refine W.seq ?_
      refine W.region ?_
      refine WL.yield rfl rfl rfl (Yield.bin rfl rfl rfl rfl) ?_
      refine WL.fin ?_
      refine Nm.code ?_
      refine W.seq ?_
      refine W.cond_dec rfl (fun hi => ?_) (fun hi => ?_)
      · have hlt_x : i < l.length := by omega
        obtain ⟨ad, rfl⟩ := hr.addr hlt_x
        obtain ⟨x, hx⟩ := getD_some hlt_x
        refine W.skipN ?_
        refine Nm.code ?_
        refine W.seq ?_
        refine W.block ?_
        refine W.seq ?_
        refine W.region ?_
        refine WL.yield rfl rfl rfl (Yield.indexNat i rfl rfl rfl Try.runUnderlying39 Try.sizeOf51 (by omega)) ?_
        refine WL.yield rfl rfl rfl (Yield.loadAgg (cs := [.int .i64 (x.f), .int .u64 ((x.n.toNat : Int)), .int .u64 ((x.t.toNat : Int))]) rfl rfl Try.isAgg51 Try.sizeOf51 (Rd.at (Rd.ext hr hO) hx)) ?_
        refine WL.eff _ rfl rfl (Eff.alloc rfl Try.zeroValue51) ?_
        rintro _ w14 ⟨_, b4, rfl, hs_b4, rfl, he_w14⟩
        have hb_b4 : w14.heap[b4]? = some (.cells #[.int .i64 (0), .int .u64 (0), .int .u64 (0)] 51 (0, 0)) := by rw [he_w14, hs_b4]; exact new_get _ _
        have ho_w14 : Ext w13 w14 := by rw [he_w14]; exact Ext.alloc _ _
        clear he_w14
        have hn_b4 : w.heap.size ≤ b4 := by rw [hs_b4]; exact hO.size
        have hn_b4_hE_jb : w7.heap.size ≤ b4 := by rw [hs_b4]; exact hE_jb.size
        have hl_hv_v_b4 := Nw.below hv_v (Nat.le_of_eq hs_b4.symm)
        have hq_b1_b4 : b1 < b4 := by rw [hs_b4]; exact blk_lt hb_b1
        have hq_b2_b4 : b2 < b4 := by rw [hs_b4]; exact blk_lt hb_b2
        have hq_b3_b4 : b3 < b4 := by rw [hs_b4]; exact blk_lt hb_b3
        replace hb_b1 := ho_w14.get hb_b1
        replace hb_b2 := ho_w14.get hb_b2
        replace hb_b3 := ho_w14.get hb_b3
        replace hO := hO.ext ho_w14
        replace hv_v := hv_v.ext ho_w14
        replace hE_jb := hE_jb.ext ho_w14
        refine WL.eff _ rfl rfl (Eff.storeBlk (vs := [.int .i64 (x.f), .int .u64 ((x.n.toNat : Int)), .int .u64 ((x.t.toNat : Int))]) (cs := [.int .i64 (0), .int .u64 (0), .int .u64 (0)]) (cs' := [.int .i64 (x.f), .int .u64 ((x.n.toNat : Int)), .int .u64 ((x.t.toNat : Int))]) rfl rfl rfl Try.sizeOf51 rfl (List.forall_mem_cons.2 ⟨rfl, (List.forall_mem_cons.2 ⟨rfl, (List.forall_mem_cons.2 ⟨rfl, (fun _ h => nomatch h)⟩)⟩)⟩) hb_b4 rfl rfl) ?_
        rintro _ w15 ⟨ho_w15, hb_new⟩
        replace hb_b1 := ho_w15.get hb_b1 (by omega)
        replace hb_b2 := ho_w15.get hb_b2 (by omega)
        replace hb_b3 := ho_w15.get hb_b3 (by omega)
        replace hb_b4 := hb_new
        replace hO := hO.trans ho_w15 (by intro i hi1 hi2; first | exact hi2 | (exfalso; omega) | (left; exact hi2) | (right; exact hi2) | (right; left; exact hi2))
        replace hv_v := hv_v.only ho_w15 (fun q hq h => absurd (show q = b4 from h) (by have := hv_v.2 q hq; have := hl_hv_v_b4 q hq; omega))
        replace hE_jb := hE_jb.trans ho_w15 (by intro i hi1 hi2; exfalso; omega)
        refine WL.fin ?_
        refine Nm.code ?_
        refine W.seq ?_
        refine W.region ?_
        refine WL.yield rfl rfl rfl (Yield.fieldAt (k := 0) rfl rfl Try.runUnderlying41 rfl Try.sizeOf39 rfl) ?_
        refine WL.yield rfl rfl rfl (Yield.load (v := .slice (A2) (l2.length) (c2)) rfl rfl Try.isAgg39 (cell_get hb_b2 rfl)) ?_
        refine WL.yield rfl rfl rfl (Yield.loadAgg (cs := [.int .i64 (x.f), .int .u64 ((x.n.toNat : Int)), .int .u64 ((x.t.toNat : Int))]) rfl rfl Try.isAgg51 Try.sizeOf51 (blk_cells hb_b4 rfl)) ?_
        refine WL.eff _ rfl rfl (Eff.fn rfl rfl Try.call70 (by rintro _ rfl; exact bs_any _ _ _ _ (hr2.ext hO) hlen2 hgh x)) ?_
        have hlt_b1_w15 : b1 < w15.heap.size := blk_lt hb_b1
        have hlt_b2_w15 : b2 < w15.heap.size := blk_lt hb_b2
        have hlt_b3_w15 : b3 < w15.heap.size := blk_lt hb_b3
        have hlt_b4_w15 : b4 < w15.heap.size := blk_lt hb_b4
        have hz_w15 := hO.size
        rintro _ w16 ⟨ho_w16, rfl⟩
        replace hb_b1 := ho_w16.get hb_b1
        replace hb_b2 := ho_w16.get hb_b2
        replace hb_b3 := ho_w16.get hb_b3
        replace hb_b4 := ho_w16.get hb_b4
        replace hO := hO.ext ho_w16
        replace hv_v := hv_v.ext ho_w16
        replace hE_jb := hE_jb.ext ho_w16
        refine WL.yield rfl rfl rfl (Yield.move rfl rfl) ?_
        refine WL.yield rfl rfl rfl (Yield.extract (v := .int .i64 (pos l2 x)) rfl rfl rfl) ?_
        refine WL.yield rfl rfl rfl (Yield.extract (v := .bool (there l2 x)) rfl rfl rfl) ?_
        refine WL.yield rfl rfl rfl (Yield.assign rfl rfl) ?_
        refine WL.yield rfl rfl rfl (Yield.assign rfl rfl) ?_
        refine WL.fin ?_
        refine Nm.code ?_
        refine W.seq ?_
        refine W.region ?_
        refine WL.yield rfl rfl rfl (Yield.move rfl rfl) ?_
        refine WL.fin ?_
        refine Nm.code ?_
        refine W.cond rfl (fun hc2 => ?_) (fun hc2 => ?_)
        · obtain ⟨y, hy⟩ := there_get hc2
          have hlt_y : pos l2 x < l2.length := (List.getElem?_eq_some_iff.1 hy).1
          obtain ⟨ad2, rfl⟩ := hr2.addr hlt_y
          refine W.seq ?_
          have hlt_b1_w16 : b1 < w16.heap.size := blk_lt hb_b1
          have hlt_b2_w16 : b2 < w16.heap.size := blk_lt hb_b2
          have hlt_b3_w16 : b3 < w16.heap.size := blk_lt hb_b3
          have hlt_b4_w16 : b4 < w16.heap.size := blk_lt hb_b4
          have hz_w16 := hO.size
          refine W.region_flat 8 Try_follows (by kernel_rfl) (by kernel_rfl) rfl ?_
          refine FL.run (i := 0) [] false (fun v_ _ => v_ = .pointer (some ⟨b4, 2, none⟩)) rfl rfl rfl (by kernel_rfl) (Stable.eq _) ?_ ?_
          · intro wb2 ho_wb2
            exact And.intro rfl (Eff.reads (Yield.fieldAt (k := 2) rfl rfl Try.runUnderlying51 rfl Try.sizeOf49 rfl) rfl)
          refine FL.run (i := 1) [0] false (fun v_ _ => v_ = .int .u64 ((x.t.toNat : Int))) rfl rfl rfl (by kernel_rfl) (Stable.eq _) ?_ ?_
          · intro wb2 ho_wb2
            rintro _ rfl
            have hb_b4 := ho_wb2.get hb_b4
            exact And.intro rfl (Eff.reads (Yield.load (v := .int .u64 ((x.t.toNat : Int))) rfl rfl Try.isAgg49 (cell_get hb_b4 rfl)) rfl)
          refine FL.run (i := 2) [] false (fun v_ _ => v_ = .pointer (some ⟨b2, 0, none⟩)) rfl rfl rfl (by kernel_rfl) (Stable.eq _) ?_ ?_
          · intro wb2 ho_wb2
            exact And.intro rfl (Eff.reads (Yield.fieldAt (k := 0) rfl rfl Try.runUnderlying41 rfl Try.sizeOf39 rfl) rfl)
          refine FL.run (i := 3) [2] false (fun v_ _ => v_ = .slice (some ad2) (l2.length) (c2)) rfl rfl rfl (by kernel_rfl) (Stable.eq _) ?_ ?_
          · intro wb2 ho_wb2
            rintro _ rfl
            have hb_b2 := ho_wb2.get hb_b2
            exact And.intro rfl (Eff.reads (Yield.load (v := .slice (some ad2) (l2.length) (c2)) rfl rfl Try.isAgg39 (cell_get hb_b2 rfl)) rfl)
          refine FL.run (i := 4) [] false (fun v_ _ => v_ = .int .i64 (pos l2 x)) rfl rfl rfl (by kernel_rfl) (Stable.eq _) ?_ ?_
          · intro wb2 ho_wb2
            exact And.intro rfl (Eff.reads (Yield.move rfl rfl) rfl)
          refine FL.run (i := 5) [3, 4] false (fun v_ _ => v_ = .pointer (some ((ad2).add ((pos l2 x) * 3)))) rfl rfl rfl (by kernel_rfl) (Stable.eq _) ?_ ?_
          · intro wb2 ho_wb2
            rintro _ rfl
            rintro _ rfl
            exact And.intro rfl (Eff.reads (Yield.indexNat (pos l2 x) rfl rfl rfl Try.runUnderlying39 Try.sizeOf51 (by omega)) rfl)
          refine FL.run (i := 6) [5] false (fun v_ _ => v_ = .pointer (some (((ad2).add ((pos l2 x) * 3)).add 2))) rfl rfl rfl (by kernel_rfl) (Stable.eq _) ?_ ?_
          · intro wb2 ho_wb2
            rintro _ rfl
            exact And.intro rfl (Eff.reads (Yield.fieldAddr rfl rfl Try.runUnderlying51 rfl Try.sizeOf49) rfl)
          refine FL.run (i := 7) [6] false (fun v_ _ => v_ = .int .u64 ((y.t.toNat : Int))) rfl rfl rfl (by kernel_rfl) (Stable.eq _) ?_ ?_
          · intro wb2 ho_wb2
            rintro _ rfl
            have hO := hO.ext ho_wb2
            exact And.intro rfl (Eff.reads (Yield.load (v := .int .u64 ((y.t.toNat : Int))) rfl rfl Try.isAgg49 (Rd.at (Rd.ext hr2 hO) hy 2 _ rfl)) rfl)
          refine FL.fin rfl [1, 7] ?_
          intro w17 ho_w17
          rintro _ rfl
          rintro _ rfl
          intro _
          show WL _ _ _ _ _ _ _ _
          replace hb_b1 := ho_w17.get hb_b1
          replace hb_b2 := ho_w17.get hb_b2
          replace hb_b3 := ho_w17.get hb_b3
          replace hb_b4 := ho_w17.get hb_b4
          replace hO := hO.ext ho_w17
          replace hv_v := hv_v.ext ho_w17
          replace hE_jb := hE_jb.ext ho_w17
          refine WL.yield rfl rfl rfl (Yield.ar (v' := .int .u64 (((x.t &&& y.t).toNat : Int))) rfl rfl rfl rfl (int_eq (bv_and x.t y.t))) ?_
          refine WL.yield rfl rfl rfl (Yield.fieldAt (k := 2) rfl rfl Try.runUnderlying51 rfl Try.sizeOf49 rfl) ?_
          refine WL.eff _ rfl rfl (Eff.storeCell (cs := [.int .i64 (x.f), .int .u64 ((x.n.toNat : Int)), .int .u64 ((x.t.toNat : Int))]) (cs' := [.int .i64 (x.f), .int .u64 ((x.n.toNat : Int)), .int .u64 (((x.t &&& y.t).toNat : Int))]) rfl rfl rfl Try.sizeOf49 rfl hb_b4 rfl rfl) ?_
          rintro _ w18 ⟨ho_w18, hb_new⟩
          replace hb_b1 := ho_w18.get hb_b1 (by omega)
          replace hb_b2 := ho_w18.get hb_b2 (by omega)
          replace hb_b3 := ho_w18.get hb_b3 (by omega)
          replace hb_b4 := hb_new
          replace hO := hO.trans ho_w18 (by intro i hi1 hi2; first | exact hi2 | (exfalso; omega) | (left; exact hi2) | (right; exact hi2) | (right; left; exact hi2))
          replace hv_v := hv_v.only ho_w18 (fun q hq h => absurd (show q = b4 from h) (by have := hv_v.2 q hq; have := hl_hv_v_b4 q hq; omega))
          replace hE_jb := hE_jb.trans ho_w18 (by intro i hi1 hi2; exfalso; omega)
          refine WL.fin ?_
          refine Nm.code ?_
          refine W.region ?_
          refine WL.yield rfl rfl rfl (Yield.move rfl rfl) ?_
          refine WL.yield rfl rfl rfl (Yield.loadAgg (cs := [.int .i64 (x.f), .int .u64 ((x.n.toNat : Int)), .int .u64 (((x.t &&& y.t).toNat : Int))]) rfl rfl Try.isAgg51 Try.sizeOf51 (blk_cells hb_b4 rfl)) ?_
          refine WL.eff _ rfl rfl (Eff.buildSlice (cs := [.int .i64 (x.f), .int .u64 ((x.n.toNat : Int)), .int .u64 (((x.t &&& y.t).toNat : Int))]) [.agg #[.int .i64 (x.f), .int .u64 ((x.n.toNat : Int)), .int .u64 (((x.t &&& y.t).toNat : Int))]] rfl rfl Try.runUnderlying39 Try.sizeOf51 Try.zeroValue51 rfl rfl rfl (List.forall_mem_cons.2 ⟨rfl, (fun _ h => nomatch h)⟩) rfl) ?_
          rintro _ w19 ⟨_, b5, rfl, hs_b5, rfl, he_w19⟩
          have hb_b5 : w19.heap[b5]? = some (.cells #[.int .i64 (x.f), .int .u64 ((x.n.toNat : Int)), .int .u64 (((x.t &&& y.t).toNat : Int))] 51 (0, 0)) := by rw [he_w19, hs_b5]; exact new_get _ _
          have ho_w19 : Ext w18 w19 := by rw [he_w19]; exact Ext.alloc _ _
          clear he_w19
          have hn_b5 : w.heap.size ≤ b5 := by rw [hs_b5]; exact hO.size
          have hn_b5_hE_jb : w7.heap.size ≤ b5 := by rw [hs_b5]; exact hE_jb.size
          have hl_hv_v_b5 := Nw.below hv_v (Nat.le_of_eq hs_b5.symm)
          have hq_b1_b5 : b1 < b5 := by rw [hs_b5]; exact blk_lt hb_b1
          have hq_b2_b5 : b2 < b5 := by rw [hs_b5]; exact blk_lt hb_b2
          have hq_b3_b5 : b3 < b5 := by rw [hs_b5]; exact blk_lt hb_b3
          have hq_b4_b5 : b4 < b5 := by rw [hs_b5]; exact blk_lt hb_b4
          replace hb_b1 := ho_w19.get hb_b1
          replace hb_b2 := ho_w19.get hb_b2
          replace hb_b3 := ho_w19.get hb_b3
          replace hb_b4 := ho_w19.get hb_b4
          replace hO := hO.ext ho_w19
          replace hv_v := hv_v.ext ho_w19
          replace hE_jb := hE_jb.ext ho_w19
          refine WL.eff _ rfl rfl (Eff.push (E := encEn) (xs := (newsL l l2 ++ newsL l2 l ++ bothL (l.take i) l2)) (ys := [{ x with t := x.t &&& y.t }]) (bytes := 24) (i := Try.t51) (z := .agg #[.int .i64 (0), .int .u64 (0), .int .u64 (0)]) rfl rfl rfl rfl Try.underlying39 Try.underlying39 (by kernel_rfl) rfl rfl rfl rfl hE_jb hE_jb.size (Nat.le_refl _) hv_v (blk_rd (E := encEn) (l := [{ x with t := x.t &&& y.t }]) hb_b5 rfl) rfl (by have h1 := news_len l l2; have h2 := news_len l2 l; have h3 := both_len (l.take i) l2; simp only [List.length_append, List.length_take, List.length_cons, List.length_nil] at *; omega)) ?_
          rintro v_v2 w20 ⟨hE_jb, hv_v2, ho_w20⟩
          obtain ⟨A_v2, c_v2, rfl, hc_v2, hv_v2⟩ := hv_v2.toSl
          replace hb_b1 := Ext.get hE_jb hb_b1_jb
          replace hb_b2 := Ext.get hE_jb hb_b2_jb
          replace hb_b3 := Ext.get hE_jb hb_b3_jb
          replace hO := hO_jb.ext hE_jb
          refine WL.yield rfl rfl rfl (Yield.assign rfl rfl) ?_
          refine WL.fin ?_
          refine Nm.block ?_
          refine Nm.code ?_
          refine W.region ?_
          refine WL.yield rfl rfl rfl (Yield.ar (v' := .int .i64 (((i + 1 : Nat) : Int))) rfl rfl rfl rfl (int_eq (by rw [wrap_i64 (by omega) (by omega)]; omega))) ?_
          refine WL.yield rfl rfl rfl (Yield.move rfl rfl) ?_
          refine WL.fin ?_
          have heq : (newsL l l2 ++ newsL l2 l ++ bothL (l.take i) l2) ++ [{ x with t := x.t &&& y.t }] = (newsL l l2 ++ newsL l2 l ++ bothL (l.take (i + 1)) l2) := by rw [both_step hx, both_yes hc2 hy]; simp
          rw [heq] at hv_v2
          refine Nm.again ⟨i + 1, A_v2, c_v2⟩ (Env.has_cons rfl (Env.has_cons rfl (Env.has_cons rfl (Env.has_cons rfl (Env.has_cons rfl (Env.has_cons rfl (Env.has_cons (congrArg (fun q => some (Value.slice A_v2 (List.length q) c_v2)) heq) Env.has_nil))))))) ⟨by omega, hE_jb, hv_v2⟩ (by show l.length - (i + 1) < l.length - i; omega)
        · refine W.skipN ?_
          refine Nm.block ?_
          refine Nm.code ?_
          refine W.region ?_
          refine WL.yield rfl rfl rfl (Yield.ar (v' := .int .i64 (((i + 1 : Nat) : Int))) rfl rfl rfl rfl (int_eq (by rw [wrap_i64 (by omega) (by omega)]; omega))) ?_
          refine WL.yield rfl rfl rfl (Yield.move rfl rfl) ?_
          refine WL.fin ?_
          have heq : (newsL l l2 ++ newsL l2 l ++ bothL (l.take i) l2) = (newsL l l2 ++ newsL l2 l ++ bothL (l.take (i + 1)) l2) := by rw [both_step hx, both_no hc2]; simp
          rw [heq] at hv_v
          refine Nm.again ⟨i + 1, A_v, c_v⟩ (Env.has_cons rfl (Env.has_cons rfl (Env.has_cons rfl (Env.has_cons rfl (Env.has_cons rfl (Env.has_cons rfl (Env.has_cons (congrArg (fun q => some (Value.slice A_v (List.length q) c_v)) heq) Env.has_nil))))))) ⟨by omega, hE_jb, hv_v⟩ (by show l.length - (i + 1) < l.length - i; omega)
      · refine W.exitX ?_
        refine Ex.thenX ?_
        refine Ex.thenX ?_
        refine Ex.hit ?_
        refine Nm.code ?_
        refine W.seq ?_
        refine W.region ?_
        refine WL.yield rfl rfl rfl (Yield.move rfl rfl) ?_
        have hll : (newsL l l2 ++ newsL l2 l ++ bothL (l.take i) l2).length ≤ 1000000 := by have h1 := news_len l l2; have h2 := news_len l2 l; have h3 := both_len (l.take i) l2; simp only [List.length_append, List.length_take] at *; omega
        refine WL.eff _ rfl rfl (Eff.fn rfl rfl Try.call71 (by rintro _ rfl; exact sort_log _ hv_v hll)) ?_
        rintro _ w21 ⟨ho_w21, l', hl1, hp1, hs1, hv_s⟩
        replace hE_jb := hE_jb.trans ho_w21 (fun q hq h => by have := hv_v.2 q h; omega)
        replace hb_b1 := Ext.get hE_jb hb_b1_jb
        replace hb_b2 := Ext.get hE_jb hb_b2_jb
        replace hb_b3 := Ext.get hE_jb hb_b3_jb
        replace hO := hO_jb.ext hE_jb
        rw [hl1] at hv_s
        rw [List.take_of_length_le (show l.length ≤ i by omega)] at hp1
        obtain rfl := join_sorted hgl hgh hp1 hs1
        refine WL.fin ?_
        refine Nm.code ?_
        refine W.seq ?_
        refine W.region ?_
        refine WL.yield rfl rfl rfl (Yield.move rfl rfl) ?_
        refine WL.yield rfl rfl rfl (Yield.build (cells := #[.slice (A_v) ((newsL l l2 ++ newsL l2 l ++ bothL (l.take i) l2).length) (c_v)]) rfl rfl (by kernel_rfl)) ?_
        refine WL.eff _ rfl rfl (Eff.storeBlk (vs := [.slice (A_v) ((newsL l l2 ++ newsL l2 l ++ bothL (l.take i) l2).length) (c_v)]) (cs := [.slice (none) (0) (0)]) (cs' := [.slice (A_v) ((newsL l l2 ++ newsL l2 l ++ bothL (l.take i) l2).length) (c_v)]) rfl rfl rfl Try.sizeOf41 rfl (List.forall_mem_cons.2 ⟨rfl, (fun _ h => nomatch h)⟩) hb_b3 rfl rfl) ?_
        rintro _ w22 ⟨ho_w22, hb_new⟩
        replace hb_b1 := ho_w22.get hb_b1 (by omega)
        replace hb_b2 := ho_w22.get hb_b2 (by omega)
        replace hb_b3 := hb_new
        replace hO := hO.trans ho_w22 (by intro i hi1 hi2; first | exact hi2 | (exfalso; omega) | (left; exact hi2) | (right; exact hi2) | (right; left; exact hi2))
        replace hv_s := hv_s.only ho_w22 (fun q hq h => absurd (show q = b3 from h) (by have := hv_s.2 q hq; omega))
        refine WL.fin ?_
        refine Nm.code ?_
        refine W.ret_postW (fun _ _ h => h) Try.results25 (resW_cell rfl (loadVar_agg (cs := [.slice (A_v) ((newsL l l2 ++ newsL l2 l ++ bothL (l.take i) l2).length) (c_v)]) Try.isAgg41 Try.sizeOf41 (blk_cells hb_b3 rfl)) resW_nil) ?_
        refine ⟨hO, ?_⟩
        rw [← hl1] at hv_s ⊢
        exact ⟨_, _, rfl, (hv_s.sl).elim (fun _ h => h.elim (fun _ h => by cases h.1; exact h.2.1)), hv_s.le hz_w7⟩

end Go.Proofs.Ytpnoddfjklcahaa
