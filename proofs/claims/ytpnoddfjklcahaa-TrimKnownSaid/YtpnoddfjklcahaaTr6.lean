import Derived.Test.YtpnoddfjklcahaaTr5

set_option linter.all false
namespace Go.Proofs.Ytpnoddfjklcahaa
open Go Go.Lv Go.RowKit Go.Shoal


theorem last_any (w : World) (A : Option Addr) (c : Nat) (l : List En) (hr : Rd encEn w A l) (hlen : l.length ≤ 100000) :
    Fc Try.prog 113 #[.agg #[.slice (A) (l.length) (c)]] w (fun v w' => Ext w w' ∧ MpI w.heap.size .i64 (lastF l) v w') := by
  refine Fc.enter (args := [.agg #[.slice (A) (l.length) (c)]]) Try.func113 rfl Try.ntmps113 rfl ?_
  intro K_
  have hO : Only (fun _ => False) w w := Only.refl _ _
  refine W.seq ?_
  refine W.region ?_
  refine WL.eff _ rfl rfl (Eff.box rfl rfl) ?_
  rintro _ w1 ⟨_, b1, rfl, hs_b1, rfl, he_w1⟩
  have hb_b1 : w1.heap[b1]? = some (.cells #[.slice (A) (l.length) (c)] 41 (0, 0)) := by rw [he_w1, hs_b1]; exact new_get _ _
  have ho_w1 : Ext w w1 := by rw [he_w1]; exact Ext.alloc _ _
  clear he_w1
  have hn_b1 : w.heap.size ≤ b1 := by rw [hs_b1]; exact hO.size
  replace hO := hO.ext ho_w1
  refine WL.yield rfl rfl rfl (Yield.assign rfl rfl) ?_
  refine WL.fin ?_
  refine Nm.code ?_
  refine W.seq ?_
  refine W.region ?_
  refine WL.eff _ rfl rfl (Eff.makeMap rfl) ?_
  rintro _ w2 ⟨_, b2, rfl, hs_b2, rfl, he_w2⟩
  have hM_b2 : MapI .i64 (fun _ => none) b2 w2 := MapI.empty (cl := 0) (by rw [he_w2, hs_b2]; exact new_get _ _)
  have ho_w2 : Ext w1 w2 := by rw [he_w2]; exact Ext.alloc _ _
  clear he_w2
  have hn_b2 : w.heap.size ≤ b2 := by rw [hs_b2]; exact hO.size
  have hq_b1_b2 : b1 < b2 := by rw [hs_b2]; exact blk_lt hb_b1
  replace hb_b1 := ho_w2.get hb_b1
  replace hO := hO.ext ho_w2
  refine WL.yield rfl rfl rfl (Yield.assign rfl rfl) ?_
  refine WL.fin ?_
  refine Nm.code ?_
  refine W.seq ?_
  refine W.seq ?_
  refine W.region ?_
  refine WL.yield rfl rfl rfl (Yield.fieldAt (k := 0) rfl rfl Try.runUnderlying41 rfl Try.sizeOf39 rfl) ?_
  refine WL.yield rfl rfl rfl (Yield.load (v := .slice (A) (l.length) (c)) rfl rfl Try.isAgg39 (cell_get hb_b1 rfl)) ?_
  refine WL.yield rfl rfl rfl (Yield.lenSlice rfl rfl Try.runUnderlying39) ?_
  refine WL.yield rfl rfl rfl (Yield.move rfl rfl) ?_
  refine WL.fin ?_
  refine Nm.code ?_
  refine W.block ?_
  refine W.loop (σ := Nat) (fun i => [(2, .map none), (3, .map (some b2)), (8, .slice (A) (l.length) (c)), (9, .int .i64 (l.length)), (10, .int .i64 (i))]) (fun i ww => ((i ≤ l.length) ∧ Only (fun _ => False) w ww ∧ ww.heap[b1]? = some (.cells #[.slice (A) (l.length) (c)] 41 (0, 0)) ∧ MapI .i64 (lastF (l.take i)) b2 ww)) (fun i => (l.length - i)) 0 (Env.has_cons rfl (Env.has_cons rfl (Env.has_cons rfl (Env.has_cons rfl (Env.has_cons rfl Env.has_nil))))) ⟨Nat.zero_le _, hO, hb_b1, hM_b2.congr (fun n => by simp [lastF, lastN])⟩ ?_
  clear hO hb_b1 hM_b2
  rintro i w3 ⟨hp, hO, hb_b1, hM_b2⟩
  refine W.seq ?_
  refine W.region ?_
  refine WL.yield rfl rfl rfl (Yield.bin rfl rfl rfl rfl) ?_
  refine WL.fin ?_
  refine Nm.code ?_
  refine W.seq ?_
  refine W.cond_dec rfl (fun hi => ?_) (fun hi => ?_)
  · have hlt_x : i < l.length := by omega
    obtain ⟨ad, rfl⟩ := hr.addr hlt_x
    obtain ⟨x, hx⟩ := getD_some hlt_x
    refine W.skipN ?_
    refine Nm.code ?_
    refine W.seq ?_
    refine W.block ?_
    refine W.seq ?_
    refine W.region ?_
    refine WL.yield rfl rfl rfl (Yield.indexNat i rfl rfl rfl Try.runUnderlying39 Try.sizeOf51 (by omega)) ?_
    refine WL.yield rfl rfl rfl (Yield.loadAgg (cs := [.int .i64 (x.f), .int .u64 ((x.n.toNat : Int)), .int .u64 ((x.t.toNat : Int))]) rfl rfl Try.isAgg51 Try.sizeOf51 (Rd.at (Rd.ext hr hO) hx)) ?_
    refine WL.eff _ rfl rfl (Eff.alloc rfl Try.zeroValue51) ?_
    rintro _ w4 ⟨_, b3, rfl, hs_b3, rfl, he_w4⟩
    have hb_b3 : w4.heap[b3]? = some (.cells #[.int .i64 (0), .int .u64 (0), .int .u64 (0)] 51 (0, 0)) := by rw [he_w4, hs_b3]; exact new_get _ _
    have ho_w4 : Ext w3 w4 := by rw [he_w4]; exact Ext.alloc _ _
    clear he_w4
    have hn_b3 : w.heap.size ≤ b3 := by rw [hs_b3]; exact hO.size
    have hq_b2_b3 : b2 < b3 := by rw [hs_b3]; exact hM_b2.lt
    have hq_b1_b3 : b1 < b3 := by rw [hs_b3]; exact blk_lt hb_b1
    replace hb_b1 := ho_w4.get hb_b1
    replace hO := hO.ext ho_w4
    replace hM_b2 := hM_b2.ext ho_w4
    refine WL.eff _ rfl rfl (Eff.storeBlk (vs := [.int .i64 (x.f), .int .u64 ((x.n.toNat : Int)), .int .u64 ((x.t.toNat : Int))]) (cs := [.int .i64 (0), .int .u64 (0), .int .u64 (0)]) (cs' := [.int .i64 (x.f), .int .u64 ((x.n.toNat : Int)), .int .u64 ((x.t.toNat : Int))]) rfl rfl rfl Try.sizeOf51 rfl (List.forall_mem_cons.2 ⟨rfl, (List.forall_mem_cons.2 ⟨rfl, (List.forall_mem_cons.2 ⟨rfl, (fun _ h => nomatch h)⟩)⟩)⟩) hb_b3 rfl rfl) ?_
    rintro _ w5 ⟨ho_w5, hb_new⟩
    replace hb_b1 := ho_w5.get hb_b1 (by omega)
    replace hb_b3 := hb_new
    replace hO := hO.trans ho_w5 (by intro i hi1 hi2; first | exact hi2 | (exfalso; omega) | (left; exact hi2) | (right; exact hi2) | (right; left; exact hi2))
    replace hM_b2 := hM_b2.only ho_w5 (show ¬ (b2 = b3) by omega)
    refine WL.fin ?_
    refine Nm.code ?_
    refine W.region ?_
    refine WL.yield rfl rfl rfl (Yield.move rfl rfl) ?_
    refine WL.yield rfl rfl rfl (Yield.fieldAt (k := 0) rfl rfl Try.runUnderlying51 rfl Try.sizeOf3 rfl) ?_
    refine WL.yield rfl rfl rfl (Yield.load (v := .int .i64 (x.f)) rfl rfl Try.isAgg3 (cell_get hb_b3 rfl)) ?_
    refine WL.yield rfl rfl rfl (Yield.fieldAt (k := 1) rfl rfl Try.runUnderlying51 rfl Try.sizeOf32 rfl) ?_
    refine WL.yield rfl rfl rfl (Yield.load (v := .int .u64 ((x.n.toNat : Int))) rfl rfl Try.isAgg32 (cell_get hb_b3 rfl)) ?_
    refine WL.eff _ rfl rfl (Eff.mapUpdateInt rfl rfl rfl rfl Try.underlying178 Try.underlying3 hM_b2) ?_
    rintro _ w6 ⟨ho_w6, hM_b2⟩
    replace hb_b1 := ho_w6.get hb_b1 (by omega)
    replace hb_b3 := ho_w6.get hb_b3 (by omega)
    replace hO := hO.trans ho_w6 (by intro i hi1 hi2; first | exact hi2 | (exfalso; omega) | (left; exact hi2) | (right; exact hi2) | (right; left; exact hi2))
    refine WL.fin ?_
    refine Nm.block ?_
    refine Nm.code ?_
    refine W.region ?_
    refine WL.yield rfl rfl rfl (Yield.ar (v' := .int .i64 (((i + 1 : Nat) : Int))) rfl rfl rfl rfl (int_eq (by rw [wrap_i64 (by omega) (by omega)]; omega))) ?_
    refine WL.yield rfl rfl rfl (Yield.move rfl rfl) ?_
    refine WL.fin ?_
    replace hM_b2 := hM_b2.congr (lastF_step hx)
    refine Nm.again (i + 1) (Env.has_cons rfl (Env.has_cons rfl (Env.has_cons rfl (Env.has_cons rfl (Env.has_cons rfl Env.has_nil))))) ⟨by omega, hO, hb_b1, hM_b2⟩ (by omega)
  · refine W.exitX ?_
    refine Ex.thenX ?_
    refine Ex.thenX ?_
    refine Ex.hit ?_
    refine Nm.code ?_
    refine W.seq ?_
    refine W.region ?_
    refine WL.yield rfl rfl rfl (Yield.move rfl rfl) ?_
    refine WL.yield rfl rfl rfl (Yield.assign rfl rfl) ?_
    refine WL.fin ?_
    refine Nm.code ?_
    refine W.ret_post (fun _ _ h => h) Try.results113 rfl ?_
    rw [List.take_of_length_le (by omega)] at hM_b2
    exact ⟨hO, _, rfl, by omega, hM_b2⟩

theorem news_any (w : World) (A : Option Addr) (c : Nat) (l : List En) (hr : Rd encEn w A l) (hlen : l.length ≤ 100000) (A2 : Option Addr) (c2 : Nat) (l2 : List En) (hr2 : Rd encEn w A2 l2) (hlen2 : l2.length ≤ 100000) (hg2 : good l2 = true) :
    Fc Try.prog 69 #[.agg #[.slice (A) (l.length) (c)], .agg #[.slice (A2) (l2.length) (c2)]] w (fun v w' => Ext w w' ∧ NwSl w.heap.size encEn 51 (newsL l l2) v w') := by
  refine Fc.enter (args := [.agg #[.slice (A) (l.length) (c)], .agg #[.slice (A2) (l2.length) (c2)]]) Try.func69 rfl Try.ntmps69 rfl ?_
  intro K_
  have hO : Only (fun _ => False) w w := Only.refl _ _
  refine W.seq ?_
  refine W.region ?_
  refine WL.eff _ rfl rfl (Eff.box rfl rfl) ?_
  rintro _ w1 ⟨_, b1, rfl, hs_b1, rfl, he_w1⟩
  have hb_b1 : w1.heap[b1]? = some (.cells #[.slice (A) (l.length) (c)] 41 (0, 0)) := by rw [he_w1, hs_b1]; exact new_get _ _
  have ho_w1 : Ext w w1 := by rw [he_w1]; exact Ext.alloc _ _
  clear he_w1
  have hn_b1 : w.heap.size ≤ b1 := by rw [hs_b1]; exact hO.size
  replace hO := hO.ext ho_w1
  refine WL.eff _ rfl rfl (Eff.box rfl rfl) ?_
  rintro _ w2 ⟨_, b2, rfl, hs_b2, rfl, he_w2⟩
  have hb_b2 : w2.heap[b2]? = some (.cells #[.slice (A2) (l2.length) (c2)] 41 (0, 0)) := by rw [he_w2, hs_b2]; exact new_get _ _
  have ho_w2 : Ext w1 w2 := by rw [he_w2]; exact Ext.alloc _ _
  clear he_w2
  have hn_b2 : w.heap.size ≤ b2 := by rw [hs_b2]; exact hO.size
  have hq_b1_b2 : b1 < b2 := by rw [hs_b2]; exact blk_lt hb_b1
  replace hb_b1 := ho_w2.get hb_b1
  replace hO := hO.ext ho_w2
  refine WL.yield rfl rfl rfl (Yield.assign rfl rfl) ?_
  refine WL.fin ?_
  refine Nm.code ?_
  refine W.seq ?_
  refine W.region ?_
  refine WL.yield rfl rfl rfl (Yield.loadAgg (cs := [.slice (A2) (l2.length) (c2)]) rfl rfl Try.isAgg41 Try.sizeOf41 (blk_cells hb_b2 rfl)) ?_
  refine WL.eff _ rfl rfl (Eff.fn rfl rfl Try.call113 (by rintro _ rfl; exact last_any _ _ _ _ (hr2.ext hO) hlen2)) ?_
  have hlt_b1_w2 : b1 < w2.heap.size := blk_lt hb_b1
  have hlt_b2_w2 : b2 < w2.heap.size := blk_lt hb_b2
  have hz_w2 := hO.size
  rintro _ w3 ⟨ho_w3, ⟨b_12, rfl, hn_b_12, hM_b_12⟩⟩
  replace hb_b1 := ho_w3.get hb_b1
  replace hb_b2 := ho_w3.get hb_b2
  replace hO := hO.ext ho_w3
  refine WL.yield rfl rfl rfl (Yield.assign rfl rfl) ?_
  refine WL.fin ?_
  refine Nm.code ?_
  refine W.seq ?_
  refine W.region ?_
  refine WL.yield rfl rfl rfl (Yield.assign rfl rfl) ?_
  refine WL.fin ?_
  refine Nm.code ?_
  refine W.seq ?_
  refine W.seq ?_
  refine W.region ?_
  refine WL.yield rfl rfl rfl (Yield.fieldAt (k := 0) rfl rfl Try.runUnderlying41 rfl Try.sizeOf39 rfl) ?_
  refine WL.yield rfl rfl rfl (Yield.load (v := .slice (A) (l.length) (c)) rfl rfl Try.isAgg39 (cell_get hb_b1 rfl)) ?_
  refine WL.yield rfl rfl rfl (Yield.lenSlice rfl rfl Try.runUnderlying39) ?_
  refine WL.yield rfl rfl rfl (Yield.move rfl rfl) ?_
  refine WL.fin ?_
  refine Nm.code ?_
  refine W.block ?_
  have hz_w3 := hO.size
  have hlt_b1_w3 : b1 < w3.heap.size := blk_lt hb_b1
  have hlt_b2_w3 : b2 < w3.heap.size := blk_lt hb_b2
  refine W.loop (σ := Nat × Option Addr × Nat) (fun ⟨i, A_v, c_v⟩ => [(3, .pointer (some ⟨b2, 0, none⟩)), (4, .slice (none) (0) (0)), (5, .map (some b_12)), (14, .slice (A) (l.length) (c)), (15, .int .i64 (l.length)), (16, .int .i64 (i)), (6, .slice (A_v) (((l.take i).filter (isNew l2)).length) (c_v))]) (fun ⟨i, A_v, c_v⟩ ww => ((i ≤ l.length) ∧ Ext w3 ww ∧ Nw w3.heap.size encEn 51 ((l.take i).filter (isNew l2)) (.slice A_v ((l.take i).filter (isNew l2)).length c_v) ww)) (fun ⟨i, A_v, c_v⟩ => (l.length - i)) ⟨0, none, 0⟩ (Env.has_cons rfl (Env.has_cons rfl (Env.has_cons rfl (Env.has_cons rfl (Env.has_cons rfl (Env.has_cons rfl (Env.has_cons rfl Env.has_nil))))))) ⟨Nat.zero_le _, Ext.refl _, Nw.nil _ _ _ _⟩ ?_
  rintro ⟨i, A_v, c_v⟩ w4 ⟨hp, hE_lo1, hv_v⟩
  have hb_b1_lo1 := hb_b1
  replace hb_b1 := Ext.get hE_lo1 hb_b1_lo1
  have hb_b2_lo1 := hb_b2
  replace hb_b2 := Ext.get hE_lo1 hb_b2_lo1
  have hO_lo1 := hO
  replace hO := hO_lo1.ext hE_lo1
  have hM_b_12_lo1 := hM_b_12
  replace hM_b_12 := hM_b_12_lo1.ext hE_lo1
  refine W.seq ?_
  refine W.region ?_
  refine WL.yield rfl rfl rfl (Yield.bin rfl rfl rfl rfl) ?_
  refine WL.fin ?_
  refine Nm.code ?_
  refine W.seq ?_
  refine W.cond_dec rfl (fun hi => ?_) (fun hi => ?_)
  · have hlt_x : i < l.length := by omega
    obtain ⟨ad, rfl⟩ := hr.addr hlt_x
    obtain ⟨x, hx⟩ := getD_some hlt_x
    refine W.skipN ?_
    refine Nm.code ?_
    refine W.seq ?_
    refine W.block ?_
    refine W.seq ?_
    refine W.region ?_
    refine WL.yield rfl rfl rfl (Yield.indexNat i rfl rfl rfl Try.runUnderlying39 Try.sizeOf51 (by omega)) ?_
    refine WL.yield rfl rfl rfl (Yield.loadAgg (cs := [.int .i64 (x.f), .int .u64 ((x.n.toNat : Int)), .int .u64 ((x.t.toNat : Int))]) rfl rfl Try.isAgg51 Try.sizeOf51 (Rd.at (Rd.ext hr hO) hx)) ?_
    refine WL.eff _ rfl rfl (Eff.alloc rfl Try.zeroValue51) ?_
    rintro _ w5 ⟨_, b3, rfl, hs_b3, rfl, he_w5⟩
    have hb_b3 : w5.heap[b3]? = some (.cells #[.int .i64 (0), .int .u64 (0), .int .u64 (0)] 51 (0, 0)) := by rw [he_w5, hs_b3]; exact new_get _ _
    have ho_w5 : Ext w4 w5 := by rw [he_w5]; exact Ext.alloc _ _
    clear he_w5
    have hn_b3 : w.heap.size ≤ b3 := by rw [hs_b3]; exact hO.size
    have hn_b3_hE_lo1 : w3.heap.size ≤ b3 := by rw [hs_b3]; exact hE_lo1.size
    have hq_b_12_b3 : b_12 < b3 := by rw [hs_b3]; exact hM_b_12.lt
    have hl_hv_v_b3 := Nw.below hv_v (Nat.le_of_eq hs_b3.symm)
    have hq_b1_b3 : b1 < b3 := by rw [hs_b3]; exact blk_lt hb_b1
    have hq_b2_b3 : b2 < b3 := by rw [hs_b3]; exact blk_lt hb_b2
    replace hb_b1 := ho_w5.get hb_b1
    replace hb_b2 := ho_w5.get hb_b2
    replace hO := hO.ext ho_w5
    replace hM_b_12 := hM_b_12.ext ho_w5
    replace hv_v := hv_v.ext ho_w5
    replace hE_lo1 := hE_lo1.ext ho_w5
    refine WL.eff _ rfl rfl (Eff.storeBlk (vs := [.int .i64 (x.f), .int .u64 ((x.n.toNat : Int)), .int .u64 ((x.t.toNat : Int))]) (cs := [.int .i64 (0), .int .u64 (0), .int .u64 (0)]) (cs' := [.int .i64 (x.f), .int .u64 ((x.n.toNat : Int)), .int .u64 ((x.t.toNat : Int))]) rfl rfl rfl Try.sizeOf51 rfl (List.forall_mem_cons.2 ⟨rfl, (List.forall_mem_cons.2 ⟨rfl, (List.forall_mem_cons.2 ⟨rfl, (fun _ h => nomatch h)⟩)⟩)⟩) hb_b3 rfl rfl) ?_
    rintro _ w6 ⟨ho_w6, hb_new⟩
    replace hb_b1 := ho_w6.get hb_b1 (by omega)
    replace hb_b2 := ho_w6.get hb_b2 (by omega)
    replace hb_b3 := hb_new
    replace hO := hO.trans ho_w6 (by intro i hi1 hi2; first | exact hi2 | (exfalso; omega) | (left; exact hi2) | (right; exact hi2) | (right; left; exact hi2))
    replace hM_b_12 := hM_b_12.only ho_w6 (show ¬ (b_12 = b3) by omega)
    replace hv_v := hv_v.only ho_w6 (fun q hq h => absurd (show q = b3 from h) (by have := hv_v.2 q hq; have := hl_hv_v_b3 q hq; omega))
    replace hE_lo1 := hE_lo1.trans ho_w6 (by intro i hi1 hi2; exfalso; omega)
    refine WL.fin ?_
    refine Nm.code ?_
    refine W.seq ?_
    refine W.region ?_
    refine WL.yield rfl rfl rfl (Yield.fieldAt (k := 0) rfl rfl Try.runUnderlying41 rfl Try.sizeOf39 rfl) ?_
    refine WL.yield rfl rfl rfl (Yield.load (v := .slice (A2) (l2.length) (c2)) rfl rfl Try.isAgg39 (cell_get hb_b2 rfl)) ?_
    refine WL.yield rfl rfl rfl (Yield.loadAgg (cs := [.int .i64 (x.f), .int .u64 ((x.n.toNat : Int)), .int .u64 ((x.t.toNat : Int))]) rfl rfl Try.isAgg51 Try.sizeOf51 (blk_cells hb_b3 rfl)) ?_
    refine WL.eff _ rfl rfl (Eff.fn rfl rfl Try.call70 (by rintro _ rfl; exact bs_any _ _ _ _ (hr2.ext hO) hlen2 hg2 x)) ?_
    have hlt_b1_w6 : b1 < w6.heap.size := blk_lt hb_b1
    have hlt_b2_w6 : b2 < w6.heap.size := blk_lt hb_b2
    have hlt_b3_w6 : b3 < w6.heap.size := blk_lt hb_b3
    have hz_w6 := hO.size
    rintro _ w7 ⟨ho_w7, rfl⟩
    replace hb_b1 := ho_w7.get hb_b1
    replace hb_b2 := ho_w7.get hb_b2
    replace hb_b3 := ho_w7.get hb_b3
    replace hO := hO.ext ho_w7
    replace hM_b_12 := hM_b_12.ext ho_w7
    replace hv_v := hv_v.ext ho_w7
    replace hE_lo1 := hE_lo1.ext ho_w7
    refine WL.yield rfl rfl rfl (Yield.move rfl rfl) ?_
    refine WL.yield rfl rfl rfl (Yield.extract (v := .int .i64 (pos l2 x)) rfl rfl rfl) ?_
    refine WL.yield rfl rfl rfl (Yield.extract (v := .bool (there l2 x)) rfl rfl rfl) ?_
    refine WL.yield rfl rfl rfl (Yield.assign rfl rfl) ?_
    refine WL.yield rfl rfl rfl (Yield.assign rfl rfl) ?_
    refine WL.fin ?_
    refine Nm.code ?_
    refine W.seq ?_
    refine W.region ?_
    refine WL.yield rfl rfl rfl (Yield.move rfl rfl) ?_
    refine WL.yield rfl rfl rfl (Yield.not rfl rfl) ?_
    refine WL.yield rfl rfl rfl (Yield.move rfl rfl) ?_
    rcases Bool.eq_false_or_eq_true (!(there l2 x)) with hg1 | hg1
    · rw [hg1]
      refine WL.yield_g rfl rfl rfl (Yield.move rfl rfl) ?_
      refine WL.yield_g rfl rfl rfl (Yield.fieldAt (k := 0) rfl rfl Try.runUnderlying51 rfl Try.sizeOf3 rfl) ?_
      refine WL.yield_g rfl rfl rfl (Yield.load (v := .int .i64 (x.f)) rfl rfl Try.isAgg3 (cell_get hb_b3 rfl)) ?_
      refine WL.yield_g rfl rfl rfl ((Yield.lookupInt rfl rfl rfl Try.underlying178 Try.underlying3 Try.zeroValue32 hM_b_12).cast (v' := .int .u64 ((((lastN l2 x.f).getD 0).toNat : Int))) (lastF_get _ _)) ?_
      refine WL.yield_g rfl rfl rfl (Yield.fieldAt (k := 1) rfl rfl Try.runUnderlying51 rfl Try.sizeOf32 rfl) ?_
      refine WL.yield_g rfl rfl rfl (Yield.load (v := .int .u64 ((x.n.toNat : Int))) rfl rfl Try.isAgg32 (cell_get hb_b3 rfl)) ?_
      refine WL.yield_g rfl rfl rfl (Yield.ar (v' := .bool (decide (((lastN l2 x.f).getD 0).toNat < x.n.toNat))) rfl rfl rfl rfl (bool_dec (by omega))) ?_
      refine WL.yield rfl rfl rfl (Yield.pick_t rfl rfl rfl) ?_
      refine WL.fin ?_
      refine Nm.code ?_
      refine W.cond_dec rfl (fun hc1 => ?_) (fun hc1 => ?_)
      · refine W.region ?_
        refine WL.yield rfl rfl rfl (Yield.move rfl rfl) ?_
        refine WL.yield rfl rfl rfl (Yield.loadAgg (cs := [.int .i64 (x.f), .int .u64 ((x.n.toNat : Int)), .int .u64 ((x.t.toNat : Int))]) rfl rfl Try.isAgg51 Try.sizeOf51 (blk_cells hb_b3 rfl)) ?_
        refine WL.eff _ rfl rfl (Eff.buildSlice (cs := [.int .i64 (x.f), .int .u64 ((x.n.toNat : Int)), .int .u64 ((x.t.toNat : Int))]) [.agg #[.int .i64 (x.f), .int .u64 ((x.n.toNat : Int)), .int .u64 ((x.t.toNat : Int))]] rfl rfl Try.runUnderlying39 Try.sizeOf51 Try.zeroValue51 rfl rfl rfl (List.forall_mem_cons.2 ⟨rfl, (fun _ h => nomatch h)⟩) rfl) ?_
        rintro _ w8 ⟨_, b4, rfl, hs_b4, rfl, he_w8⟩
        have hb_b4 : w8.heap[b4]? = some (.cells #[.int .i64 (x.f), .int .u64 ((x.n.toNat : Int)), .int .u64 ((x.t.toNat : Int))] 51 (0, 0)) := by rw [he_w8, hs_b4]; exact new_get _ _
        have ho_w8 : Ext w7 w8 := by rw [he_w8]; exact Ext.alloc _ _
        clear he_w8
        have hn_b4 : w.heap.size ≤ b4 := by rw [hs_b4]; exact hO.size
        have hn_b4_hE_lo1 : w3.heap.size ≤ b4 := by rw [hs_b4]; exact hE_lo1.size
        have hq_b_12_b4 : b_12 < b4 := by rw [hs_b4]; exact hM_b_12.lt
        have hl_hv_v_b4 := Nw.below hv_v (Nat.le_of_eq hs_b4.symm)
        have hq_b1_b4 : b1 < b4 := by rw [hs_b4]; exact blk_lt hb_b1
        have hq_b2_b4 : b2 < b4 := by rw [hs_b4]; exact blk_lt hb_b2
        have hq_b3_b4 : b3 < b4 := by rw [hs_b4]; exact blk_lt hb_b3
        replace hb_b1 := ho_w8.get hb_b1
        replace hb_b2 := ho_w8.get hb_b2
        replace hb_b3 := ho_w8.get hb_b3
        replace hO := hO.ext ho_w8
        replace hM_b_12 := hM_b_12.ext ho_w8
        replace hv_v := hv_v.ext ho_w8
        replace hE_lo1 := hE_lo1.ext ho_w8
        refine WL.eff _ rfl rfl (Eff.push (E := encEn) (xs := ((l.take i).filter (isNew l2))) (ys := [x]) (bytes := 24) (i := Try.t51) (z := .agg #[.int .i64 (0), .int .u64 (0), .int .u64 (0)]) rfl rfl rfl rfl Try.underlying39 Try.underlying39 (by kernel_rfl) rfl rfl rfl rfl hE_lo1 hE_lo1.size (Nat.le_refl _) hv_v (blk_rd (E := encEn) (l := [x]) hb_b4 rfl) rfl (by have h1 := filt_len (isNew l2) l i; show (((l.take i).filter (isNew l2)).length + 1) * _ ≤ _; omega)) ?_
        rintro v_v2 w9 ⟨hE_lo1, hv_v2, ho_w9⟩
        obtain ⟨A_v2, c_v2, rfl, hc_v2, hv_v2⟩ := hv_v2.toSl
        replace hb_b1 := Ext.get hE_lo1 hb_b1_lo1
        replace hb_b2 := Ext.get hE_lo1 hb_b2_lo1
        replace hO := hO_lo1.ext hE_lo1
        replace hM_b_12 := hM_b_12_lo1.ext hE_lo1
        refine WL.yield rfl rfl rfl (Yield.assign rfl rfl) ?_
        refine WL.fin ?_
        refine Nm.block ?_
        refine Nm.code ?_
        refine W.region ?_
        refine WL.yield rfl rfl rfl (Yield.ar (v' := .int .i64 (((i + 1 : Nat) : Int))) rfl rfl rfl rfl (int_eq (by rw [wrap_i64 (by omega) (by omega)]; omega))) ?_
        refine WL.yield rfl rfl rfl (Yield.move rfl rfl) ?_
        refine WL.fin ?_
        have hnew : isNew l2 x = true := by simp_all [isNew]
        have heq : (l.take i).filter (isNew l2) ++ [x] = (l.take (i + 1)).filter (isNew l2) := by rw [take_filter _ hx, hnew]; rfl
        rw [heq] at hv_v2
        refine Nm.again ⟨i + 1, A_v2, c_v2⟩ (Env.has_cons rfl (Env.has_cons rfl (Env.has_cons rfl (Env.has_cons rfl (Env.has_cons rfl (Env.has_cons rfl (Env.has_cons (congrArg (fun q => some (Value.slice A_v2 (List.length q) c_v2)) heq) Env.has_nil))))))) ⟨by omega, hE_lo1, hv_v2⟩ (by show l.length - (i + 1) < l.length - i; omega)
      · refine W.skipN ?_
        refine Nm.block ?_
        refine Nm.code ?_
        refine W.region ?_
        refine WL.yield rfl rfl rfl (Yield.ar (v' := .int .i64 (((i + 1 : Nat) : Int))) rfl rfl rfl rfl (int_eq (by rw [wrap_i64 (by omega) (by omega)]; omega))) ?_
        refine WL.yield rfl rfl rfl (Yield.move rfl rfl) ?_
        refine WL.fin ?_
        have hnew : isNew l2 x = false := by simp_all [isNew]
        have heq : (l.take i).filter (isNew l2) = (l.take (i + 1)).filter (isNew l2) := by rw [take_filter _ hx, hnew]; simp
        rw [heq] at hv_v
        refine Nm.again ⟨i + 1, A_v, c_v⟩ (Env.has_cons rfl (Env.has_cons rfl (Env.has_cons rfl (Env.has_cons rfl (Env.has_cons rfl (Env.has_cons rfl (Env.has_cons (congrArg (fun q => some (Value.slice A_v (List.length q) c_v)) heq) Env.has_nil))))))) ⟨by omega, hE_lo1, hv_v⟩ (by show l.length - (i + 1) < l.length - i; omega)
    · rw [hg1]
      refine WL.skip_g rfl rfl rfl ?_
      refine WL.skip_g rfl rfl rfl ?_
      refine WL.skip_g rfl rfl rfl ?_
      refine WL.skip_g rfl rfl rfl ?_
      refine WL.skip_g rfl rfl rfl ?_
      refine WL.skip_g rfl rfl rfl ?_
      refine WL.skip_g rfl rfl rfl ?_
      refine WL.yield rfl rfl rfl (Yield.pick_f rfl rfl rfl) ?_
      refine WL.fin ?_
      refine Nm.code ?_
      refine W.cond_false rfl ?_
      refine W.skipN ?_
      refine Nm.block ?_
      refine Nm.code ?_
      refine W.region ?_
      refine WL.yield rfl rfl rfl (Yield.ar (v' := .int .i64 (((i + 1 : Nat) : Int))) rfl rfl rfl rfl (int_eq (by rw [wrap_i64 (by omega) (by omega)]; omega))) ?_
      refine WL.yield rfl rfl rfl (Yield.move rfl rfl) ?_
      refine WL.fin ?_
      have hnew : isNew l2 x = false := by simp_all [isNew]
      have heq : (l.take i).filter (isNew l2) = (l.take (i + 1)).filter (isNew l2) := by rw [take_filter _ hx, hnew]; simp
      rw [heq] at hv_v
      refine Nm.again ⟨i + 1, A_v, c_v⟩ (Env.has_cons rfl (Env.has_cons rfl (Env.has_cons rfl (Env.has_cons rfl (Env.has_cons rfl (Env.has_cons rfl (Env.has_cons (congrArg (fun q => some (Value.slice A_v (List.length q) c_v)) heq) Env.has_nil))))))) ⟨by omega, hE_lo1, hv_v⟩ (by show l.length - (i + 1) < l.length - i; omega)
  · refine W.exitX ?_
    refine Ex.thenX ?_
    refine Ex.thenX ?_
    refine Ex.hit ?_
    refine Nm.code ?_
    refine W.seq ?_
    refine W.region ?_
    refine WL.yield rfl rfl rfl (Yield.move rfl rfl) ?_
    refine WL.yield rfl rfl rfl (Yield.assign rfl rfl) ?_
    refine WL.fin ?_
    refine Nm.code ?_
    refine W.ret_post (fun _ _ h => h) Try.results69 rfl ?_
    rw [List.take_of_length_le (by omega)] at hv_v ⊢
    exact ⟨hO, (hv_v.le hz_w3).toSl⟩

end Go.Proofs.Ytpnoddfjklcahaa
