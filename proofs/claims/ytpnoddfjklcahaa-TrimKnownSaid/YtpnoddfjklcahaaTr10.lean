import Derived.Test.YtpnoddfjklcahaaTr9

set_option linter.all false
namespace Go.Proofs.Ytpnoddfjklcahaa
open Go Go.Lv Go.RowKit Go.Shoal


theorem get_log (w : World) (A : Option Addr) (c : Nat) (l : List UInt8) (hr : Rd encB w A l) (hlen : l.length ≤ 100000) :
    Fc Try.prog 31 #[.slice (A) (l.length) (c)] w (fun v w' => Ext w w' ∧ ∃ A' c', v = .tuple #[.agg #[.slice A' ((getP l).getD []).length c'], .bool (getP l).isSome] ∧ ((getP l).getD []).length ≤ c' ∧ Nw w.heap.size encEn 51 ((getP l).getD []) (.slice A' ((getP l).getD []).length c') w') := by
  refine Fc.enter (args := [.slice (A) (l.length) (c)]) Try.func31 rfl Try.ntmps31 rfl ?_
  intro K_
  have hO : Only (fun _ => False) w w := Only.refl _ _
  refine W.seq ?_
  refine W.region ?_
  refine WL.eff _ rfl rfl (Eff.alloc rfl Try.zeroValue41) ?_
  rintro _ w1 ⟨_, b1, rfl, hs_b1, rfl, he_w1⟩
  have hb_b1 : w1.heap[b1]? = some (.cells #[.slice (none) (0) (0)] 41 (0, 0)) := by rw [he_w1, hs_b1]; exact new_get _ _
  have ho_w1 : Ext w w1 := by rw [he_w1]; exact Ext.alloc _ _
  clear he_w1
  have hn_b1 : w.heap.size ≤ b1 := by rw [hs_b1]; exact hO.size
  replace hO := hO.ext ho_w1
  refine WL.yield rfl rfl rfl (Yield.assign rfl rfl) ?_
  refine WL.fin ?_
  refine Nm.code ?_
  refine W.seq ?_
  refine W.region ?_
  refine WL.yield rfl rfl rfl (Yield.move rfl rfl) ?_
  refine WL.eff _ rfl rfl (Eff.fn rfl rfl Try.call72 (by rintro _ rfl; exact newreader _ _ _ _ (hr.ext hO) (by omega))) ?_
  have hlt_b1_w1 : b1 < w1.heap.size := blk_lt hb_b1
  have hz_w1 := hO.size
  rintro _ w2 ⟨ho_w2, ⟨b_8, A_8, c_8, rfl, hn_b_8, hb_b_8, hc_8, hv_8, hl_hv_8_b_8⟩⟩
  have hq_b1_b_8 : b1 < b_8 := Nat.lt_of_lt_of_le hlt_b1_w1 hn_b_8
  replace hn_b_8 := Nat.le_trans hz_w1 hn_b_8
  replace hb_b1 := ho_w2.get hb_b1
  replace hO := hO.ext ho_w2
  refine WL.yield rfl rfl rfl (Yield.assign rfl rfl) ?_
  refine WL.fin ?_
  refine Nm.code ?_
  refine W.seq ?_
  refine W.region ?_
  refine WL.eff _ rfl rfl (Eff.alloc rfl Try.zeroValue41) ?_
  rintro _ w3 ⟨_, b2, rfl, hs_b2, rfl, he_w3⟩
  have hb_b2 : w3.heap[b2]? = some (.cells #[.slice (none) (0) (0)] 41 (0, 0)) := by rw [he_w3, hs_b2]; exact new_get _ _
  have ho_w3 : Ext w2 w3 := by rw [he_w3]; exact Ext.alloc _ _
  clear he_w3
  have hn_b2 : w.heap.size ≤ b2 := by rw [hs_b2]; exact hO.size
  have hl_hv_8_b2 := Nw.below hv_8 (Nat.le_of_eq hs_b2.symm)
  have hq_b1_b2 : b1 < b2 := by rw [hs_b2]; exact blk_lt hb_b1
  have hq_b_8_b2 : b_8 < b2 := by rw [hs_b2]; exact blk_lt hb_b_8
  replace hb_b1 := ho_w3.get hb_b1
  replace hb_b_8 := ho_w3.get hb_b_8
  replace hO := hO.ext ho_w3
  replace hv_8 := hv_8.ext ho_w3
  refine WL.fin ?_
  refine Nm.code ?_
  refine W.seq ?_
  refine W.seq ?_
  refine W.region ?_
  refine WL.yield rfl rfl rfl (Yield.move rfl rfl) ?_
  refine WL.yield rfl rfl rfl (Yield.move rfl rfl) ?_
  refine WL.yield rfl rfl rfl (Yield.lenSlice rfl rfl Try.runUnderlying33) ?_
  refine WL.yield rfl rfl rfl ((Yield.convInt rfl rfl Try.runUnderlying3 Try.runUnderlying32).cast (v' := .int .u64 ((l.length : Int))) (int_eq (wrap_u64 (by omega) (by omega)))) ?_
  refine WL.eff _ rfl rfl (Eff.fn rfl rfl Try.call73 (by rintro _ rfl; exact rnum_any _ b_8 A_8 l _ _ (some 0) hb_b_8 (RdP.zero hc_8) hv_8.rd l.length)) ?_
  have hlt_b1_w3 : b1 < w3.heap.size := blk_lt hb_b1
  have hlt_b_8_w3 : b_8 < w3.heap.size := blk_lt hb_b_8
  have hlt_b2_w3 : b2 < w3.heap.size := blk_lt hb_b2
  have hz_w3 := hO.size
  rintro _ w4 ⟨ho_w4, rfl, A_r, c_r, hb_new, hR_r⟩
  replace hb_b1 := ho_w4.get hb_b1 (by omega)
  replace hb_b_8 := hb_new
  replace hb_b2 := ho_w4.get hb_b2 (by omega)
  replace hO := hO.trans ho_w4 (by intro i hi1 hi2; first | exact hi2 | (exfalso; omega) | (left; exact hi2) | (right; exact hi2) | (right; left; exact hi2))
  replace hv_8 := hv_8.only ho_w4 (fun q hq h => absurd (show q = b_8 from h) (by have := hv_8.2 q hq; have := hl_hv_8_b_8 q hq; omega))
  refine WL.yield rfl rfl rfl (Yield.assign rfl rfl) ?_
  refine WL.fin ?_
  refine Nm.code ?_
  refine W.block ?_
  have hz_w4 := hO.size
  have hlt_b1_w4 : b1 < w4.heap.size := blk_lt hb_b1
  have hlt_b_8_w4 : b_8 < w4.heap.size := blk_lt hb_b_8
  have hlt_b2_w4 : b2 < w4.heap.size := blk_lt hb_b2
  have hlr_hv_8_lo1 := fun q hq => Own.lt (hv_8).1 (b := q) hq
  refine W.loop (σ := Nat × Option Nat × List En × Option Addr × Nat × Option Addr × Nat) (fun ⟨k, st, acc, A_r, c_r, A_v, c_v⟩ => [(2, .pointer (some ⟨b1, 0, none⟩)), (3, .bool false), (4, .pointer (some ⟨b_8, 0, none⟩)), (5, .pointer (some ⟨b2, 0, none⟩)), (6, .int .u64 ((k : Int)))]) (fun ⟨k, st, acc, A_r, c_r, A_v, c_v⟩ ww => ((RdP A_8 l A_r c_r st ∧ runP l k st acc = runP l (numV l l.length (some 0)) (numS l l.length (some 0)) [] ∧ acc.length + k ≤ l.length) ∧ Only (fun _ => False) w ww ∧ Only (fun k => k = b_8 ∨ k = b2) w4 ww ∧ ww.heap[b1]? = some (.cells #[.slice (none) (0) (0)] 41 (0, 0)) ∧ ww.heap[b_8]? = some (.cells #[(rdA A_r c_r l st), .bool (badO st)] 183 (0, 0)) ∧ ww.heap[b2]? = some (.cells #[.slice (A_v) (acc.length) (c_v)] 41 (0, 0)) ∧ Nw w4.heap.size encEn 51 acc (.slice A_v acc.length c_v) ww)) (fun ⟨k, st, acc, A_r, c_r, A_v, c_v⟩ => k) ⟨(numV l l.length (some 0)), (numS l l.length (some 0)), [], A_r, c_r, none, 0⟩ (Env.has_cons rfl (Env.has_cons rfl (Env.has_cons rfl (Env.has_cons rfl (Env.has_cons rfl Env.has_nil))))) ⟨⟨hR_r, rfl, by have h1 := numV_le l l.length (some 0); show 0 + _ ≤ _; omega⟩, hO, Only.refl _ _, hb_b1, hb_b_8, hb_b2, Nw.nil _ _ _ _⟩ ?_
  clear hO hb_b1 hb_b_8 hb_b2
  have hv_8_lo1 := hv_8
  rintro ⟨k, st, acc, A_r, c_r, A_v, c_v⟩ w5 ⟨hp, hO, hE_lo1, hb_b1, hb_b_8, hb_b2, hv_v⟩
  replace hv_8 := hv_8_lo1.only hE_lo1 (fun q hq h => by have h1 := hlr_hv_8_lo1 q hq; have h2 := hv_8_lo1.2 q hq; have h_b_8 := hl_hv_8_b_8 q hq; have h_b2 := hl_hv_8_b2 q hq; have h3 : q = b_8 ∨ q = b2 := h; omega)
  refine W.seq ?_
  refine W.seq ?_
  refine W.region ?_
  refine WL.yield rfl rfl rfl (Yield.move rfl rfl) ?_
  refine WL.yield rfl rfl rfl (Yield.ar (v' := .bool (decide (k > 0))) rfl rfl rfl rfl (bool_dec (by omega))) ?_
  refine WL.fin ?_
  refine Nm.code ?_
  refine W.cond_dec rfl (fun hk => ?_) (fun hk => ?_)
  · have hkl := hp.2.2
    refine W.skipN ?_
    refine Nm.code ?_
    refine W.seq ?_
    refine W.block ?_
    refine W.region_draw 12 (w5 = ·) rfl Try_follows (by kernel_rfl) (by kernel_rfl) ?_
    refine HT.read (i := 0) (by kernel_rfl) rfl rfl rfl rfl (YC.read (by rintro _ rfl; exact (Yield.fieldAt (k := 0) rfl rfl Try.runUnderlying41 rfl Try.sizeOf39 rfl))) ?_
    refine HT.read (i := 1) (by kernel_rfl) rfl rfl rfl rfl (YC.read (by rintro _ rfl; exact (Yield.load (v := .slice (A_v) (acc.length) (c_v)) rfl rfl Try.isAgg39 (cell_get hb_b2 rfl)))) ?_
    refine HT.read (i := 2) (by kernel_rfl) rfl rfl rfl rfl (YC.read (by rintro _ rfl; exact (Yield.move rfl rfl))) ?_
    refine HT.read (i := 5) (by kernel_rfl) rfl rfl rfl rfl (YC.read (by rintro _ rfl; exact (Yield.move rfl rfl))) ?_
    refine HT.read (i := 7) (by kernel_rfl) rfl rfl rfl rfl (YC.read (by rintro _ rfl; exact (Yield.move rfl rfl))) ?_
    refine HT.effC (i := 3) _ (by kernel_rfl) rfl rfl rfl (Eff.fn rfl rfl Try.call73 (by rintro _ rfl; exact rnum_any _ b_8 A_8 l _ _ st hb_b_8 hp.1 hv_8.rd 16)) ?_
    have hlt_b1_w5 : b1 < w5.heap.size := blk_lt hb_b1
    have hlt_b_8_w5 : b_8 < w5.heap.size := blk_lt hb_b_8
    have hlt_b2_w5 : b2 < w5.heap.size := blk_lt hb_b2
    have hz_w5 := hO.size
    rintro _ w6 ⟨ho_w6, rfl, A_s1, c_s1, hb_new, hR_s1⟩
    replace hb_b1 := ho_w6.get hb_b1 (by omega)
    replace hb_b_8 := hb_new
    replace hb_b2 := ho_w6.get hb_b2 (by omega)
    replace hO := hO.trans ho_w6 (by intro i hi1 hi2; first | exact hi2 | (exfalso; omega) | (left; exact hi2) | (right; exact hi2) | (right; left; exact hi2))
    replace hv_8 := hv_8.only ho_w6 (fun q hq h => absurd (show q = b_8 from h) (by have := hv_8.2 q hq; have := hl_hv_8_b_8 q hq; omega))
    replace hv_v := hv_v.only ho_w6 (fun q hq h => absurd (show q = b_8 from h) (by have := hv_v.2 q hq; omega))
    replace hE_lo1 := hE_lo1.trans ho_w6 (fun i hi1 hi2 => by have h3 : i = b_8 := hi2; show i = b_8 ∨ i = b2; omega)
    refine ⟨(AllP.rd rfl (Yield.move rfl rfl) (AllP.rd rfl (Yield.move rfl rfl) (AllP.ahead (by kernel_rfl) (AllP.rd rfl (Yield.load (v := .slice (A_v) (acc.length) (c_v)) rfl rfl Try.isAgg39 (cell_get hb_b2 rfl)) (AllP.rd rfl (Yield.fieldAt (k := 0) rfl rfl Try.runUnderlying41 rfl Try.sizeOf39 rfl) AllP.nil))))), ?_⟩
    refine HT.read (i := 4) (by kernel_rfl) rfl rfl rfl rfl (YC.read (by rintro _ rfl; exact ((Yield.convInt rfl rfl Try.runUnderlying32 Try.runUnderlying3).cast (v' := .int .i64 (((numV l 16 st : Nat) : Int))) (int_eq (wrap_i64 (by omega) (by have := numV_le l 16 st; omega)))))) ?_
    refine HT.effC (i := 6) _ (by kernel_rfl) rfl rfl rfl (Eff.fn rfl rfl Try.call73 (by rintro _ rfl; exact rnum_bv _ b_8 A_8 l _ _ (numS l 16 st) hb_b_8 hR_s1 hv_8.rd M64)) ?_
    have hlt_b1_w6 : b1 < w6.heap.size := blk_lt hb_b1
    have hlt_b_8_w6 : b_8 < w6.heap.size := blk_lt hb_b_8
    have hlt_b2_w6 : b2 < w6.heap.size := blk_lt hb_b2
    have hz_w6 := hO.size
    rintro _ w7 ⟨ho_w7, rfl, A_s2, c_s2, hb_new, hR_s2⟩
    replace hb_b1 := ho_w7.get hb_b1 (by omega)
    replace hb_b_8 := hb_new
    replace hb_b2 := ho_w7.get hb_b2 (by omega)
    replace hO := hO.trans ho_w7 (by intro i hi1 hi2; first | exact hi2 | (exfalso; omega) | (left; exact hi2) | (right; exact hi2) | (right; left; exact hi2))
    replace hv_8 := hv_8.only ho_w7 (fun q hq h => absurd (show q = b_8 from h) (by have := hv_8.2 q hq; have := hl_hv_8_b_8 q hq; omega))
    replace hv_v := hv_v.only ho_w7 (fun q hq h => absurd (show q = b_8 from h) (by have := hv_v.2 q hq; omega))
    replace hE_lo1 := hE_lo1.trans ho_w7 (fun i hi1 hi2 => by have h3 : i = b_8 := hi2; show i = b_8 ∨ i = b2; omega)
    refine ⟨(AllP.rd rfl ((Yield.convInt rfl rfl Try.runUnderlying32 Try.runUnderlying3).cast (v' := .int .i64 (((numV l 16 st : Nat) : Int))) (int_eq (wrap_i64 (by omega) (by have := numV_le l 16 st; omega)))) (AllP.rd rfl (Yield.move rfl rfl) (AllP.ahead (by kernel_rfl) (AllP.ahead (by kernel_rfl) (AllP.rd rfl (Yield.load (v := .slice (A_v) (acc.length) (c_v)) rfl rfl Try.isAgg39 (cell_get hb_b2 rfl)) (AllP.rd rfl (Yield.fieldAt (k := 0) rfl rfl Try.runUnderlying41 rfl Try.sizeOf39 rfl) AllP.nil)))))), ?_⟩
    refine HT.effC (i := 8) _ (by kernel_rfl) rfl rfl rfl (Eff.fn rfl rfl Try.call75 (by rintro _ rfl; exact all_any _ 16 (by omega))) ?_
    rintro _ _ ⟨rfl, rfl⟩
    refine ⟨(AllP.rd rfl ((Yield.convInt rfl rfl Try.runUnderlying32 Try.runUnderlying3).cast (v' := .int .i64 (((numV l 16 st : Nat) : Int))) (int_eq (wrap_i64 (by omega) (by have := numV_le l 16 st; omega)))) (AllP.rd rfl (Yield.move rfl rfl) (AllP.ahead (by kernel_rfl) (AllP.ahead (by kernel_rfl) (AllP.rd rfl (Yield.load (v := .slice (A_v) (acc.length) (c_v)) rfl rfl Try.isAgg39 (cell_get hb_b2 rfl)) (AllP.rd rfl (Yield.fieldAt (k := 0) rfl rfl Try.runUnderlying41 rfl Try.sizeOf39 rfl) AllP.nil)))))), ?_⟩
    refine HT.effC (i := 9) _ (by kernel_rfl) rfl rfl rfl (Eff.fn rfl rfl Try.call74 (by rintro _ rfl; exact rset_bv _ b_8 A_8 l _ _ (numS l M64 (numS l 16 st)) hb_b_8 hR_s2 hv_8.rd (allM 16))) ?_
    have hlt_b1_w7 : b1 < w7.heap.size := blk_lt hb_b1
    have hlt_b_8_w7 : b_8 < w7.heap.size := blk_lt hb_b_8
    have hlt_b2_w7 : b2 < w7.heap.size := blk_lt hb_b2
    have hz_w7 := hO.size
    rintro _ w8 ⟨ho_w8, rfl, A_s3, c_s3, hb_new, hR_s3⟩
    replace hb_b1 := ho_w8.get hb_b1 (by omega)
    replace hb_b_8 := hb_new
    replace hb_b2 := ho_w8.get hb_b2 (by omega)
    replace hO := hO.trans ho_w8 (by intro i hi1 hi2; first | exact hi2 | (exfalso; omega) | (left; exact hi2) | (right; exact hi2) | (right; left; exact hi2))
    replace hv_8 := hv_8.only ho_w8 (fun q hq h => absurd (show q = b_8 from h) (by have := hv_8.2 q hq; have := hl_hv_8_b_8 q hq; omega))
    replace hv_v := hv_v.only ho_w8 (fun q hq h => absurd (show q = b_8 from h) (by have := hv_v.2 q hq; omega))
    replace hE_lo1 := hE_lo1.trans ho_w8 (fun i hi1 hi2 => by have h3 : i = b_8 := hi2; show i = b_8 ∨ i = b2; omega)
    refine ⟨(AllP.rd rfl ((Yield.convInt rfl rfl Try.runUnderlying32 Try.runUnderlying3).cast (v' := .int .i64 (((numV l 16 st : Nat) : Int))) (int_eq (wrap_i64 (by omega) (by have := numV_le l 16 st; omega)))) (AllP.ahead (by kernel_rfl) (AllP.ahead (by kernel_rfl) (AllP.ahead (by kernel_rfl) (AllP.rd rfl (Yield.load (v := .slice (A_v) (acc.length) (c_v)) rfl rfl Try.isAgg39 (cell_get hb_b2 rfl)) (AllP.rd rfl (Yield.fieldAt (k := 0) rfl rfl Try.runUnderlying41 rfl Try.sizeOf39 rfl) AllP.nil)))))), ?_⟩
    refine HT.read (i := 10) (by kernel_rfl) rfl rfl rfl rfl (YC.read (by rintro _ rfl; exact (Yield.build (cells := #[.int .i64 (((numV l 16 st : Nat) : Int)), .int .u64 (((BitVec.ofNat 64 (numV l M64 (numS l 16 st))).toNat : Int)), .int .u64 (((BitVec.ofNat 64 (setV l (allM 16) (numS l M64 (numS l 16 st)))).toNat : Int))]) rfl rfl (by kernel_rfl)))) ?_
    refine HT.effC (i := 11) _ (by kernel_rfl) rfl rfl rfl (Eff.buildSlice (cs := [.int .i64 (((numV l 16 st : Nat) : Int)), .int .u64 (((BitVec.ofNat 64 (numV l M64 (numS l 16 st))).toNat : Int)), .int .u64 (((BitVec.ofNat 64 (setV l (allM 16) (numS l M64 (numS l 16 st)))).toNat : Int))]) [.agg #[.int .i64 (((numV l 16 st : Nat) : Int)), .int .u64 (((BitVec.ofNat 64 (numV l M64 (numS l 16 st))).toNat : Int)), .int .u64 (((BitVec.ofNat 64 (setV l (allM 16) (numS l M64 (numS l 16 st)))).toNat : Int))]] rfl rfl Try.runUnderlying39 Try.sizeOf51 Try.zeroValue51 rfl rfl rfl (List.forall_mem_cons.2 ⟨rfl, (fun _ h => nomatch h)⟩) rfl) ?_
    rintro _ w9 ⟨_, b3, rfl, hs_b3, rfl, he_w9⟩
    have hb_b3 : w9.heap[b3]? = some (.cells #[.int .i64 (((numV l 16 st : Nat) : Int)), .int .u64 (((BitVec.ofNat 64 (numV l M64 (numS l 16 st))).toNat : Int)), .int .u64 (((BitVec.ofNat 64 (setV l (allM 16) (numS l M64 (numS l 16 st)))).toNat : Int))] 51 (0, 0)) := by rw [he_w9, hs_b3]; exact new_get _ _
    have ho_w9 : Ext w8 w9 := by rw [he_w9]; exact Ext.alloc _ _
    clear he_w9
    have hn_b3 : w.heap.size ≤ b3 := by rw [hs_b3]; exact hO.size
    have hn_b3_hE_lo1 : w4.heap.size ≤ b3 := by rw [hs_b3]; exact hE_lo1.size
    have hl_hv_8_b3 := Nw.below hv_8 (Nat.le_of_eq hs_b3.symm)
    have hl_hv_v_b3 := Nw.below hv_v (Nat.le_of_eq hs_b3.symm)
    have hq_b1_b3 : b1 < b3 := by rw [hs_b3]; exact blk_lt hb_b1
    have hq_b_8_b3 : b_8 < b3 := by rw [hs_b3]; exact blk_lt hb_b_8
    have hq_b2_b3 : b2 < b3 := by rw [hs_b3]; exact blk_lt hb_b2
    replace hb_b1 := ho_w9.get hb_b1
    replace hb_b_8 := ho_w9.get hb_b_8
    replace hb_b2 := ho_w9.get hb_b2
    replace hO := hO.ext ho_w9
    replace hv_8 := hv_8.ext ho_w9
    replace hv_v := hv_v.ext ho_w9
    replace hE_lo1 := hE_lo1.ext ho_w9
    refine ⟨(AllP.ahead (by kernel_rfl) (AllP.ahead (by kernel_rfl) (AllP.ahead (by kernel_rfl) (AllP.ahead (by kernel_rfl) (AllP.ahead (by kernel_rfl) (AllP.rd rfl (Yield.load (v := .slice (A_v) (acc.length) (c_v)) rfl rfl Try.isAgg39 (cell_get hb_b2 rfl)) (AllP.rd rfl (Yield.fieldAt (k := 0) rfl rfl Try.runUnderlying41 rfl Try.sizeOf39 rfl) AllP.nil))))))), ?_⟩
    refine HT.fin (by kernel_rfl) ?_
    rintro _ rfl
    show WL _ _ _ _ _ _ _ _
    refine WL.eff _ rfl rfl (Eff.pushO (E := encEn) (xs := acc) (ys := [enP l st]) (bytes := 24) (i := Try.t51) (z := .agg #[.int .i64 (0), .int .u64 (0), .int .u64 (0)]) rfl rfl rfl rfl Try.underlying39 Try.underlying39 (by kernel_rfl) rfl rfl rfl rfl hE_lo1.size hv_v (blk_rd (E := encEn) (l := [enP l st]) hb_b3 rfl) rfl (by show (acc.length + 1) * 24 ≤ _; omega)) ?_
    rintro v_v2 w10 ⟨hw_v2, ho_w10⟩
    have hB_w10 : ∀ q, _ = some q → w4.heap.size ≤ q := fun q hq => (hv_v).2 q hq
    replace hb_b1 := ho_w10.get hb_b1 (fun h => by have h1 := hB_w10 _ h; omega)
    replace hb_b_8 := ho_w10.get hb_b_8 (fun h => by have h1 := hB_w10 _ h; omega)
    replace hb_b2 := ho_w10.get hb_b2 (fun h => by have h1 := hB_w10 _ h; omega)
    replace hb_b3 := ho_w10.get hb_b3 (fun h => by have h1 := hB_w10 _ h; have h2 := hl_hv_v_b3 _ h; omega)
    replace hO := hO.trans ho_w10 (fun i hi1 hi2 => by have h1 := hB_w10 _ hi2; first | (exfalso; omega) | omega)
    replace hE_lo1 := hE_lo1.trans ho_w10 (fun i hi1 hi2 => by have h1 := hB_w10 _ hi2; exfalso; omega)
    replace hv_8 := hv_8.only ho_w10 (fun q hq h => by have h1 := hB_w10 _ h; have h4 := hlr_hv_8_lo1 q hq; omega)
    obtain ⟨A_v2, c_v2, rfl, hc_v2, hv_v2⟩ := hw_v2.toSl
    refine WL.yield rfl rfl rfl (Yield.fieldAt (k := 0) rfl rfl Try.runUnderlying41 rfl Try.sizeOf39 rfl) ?_
    refine WL.eff _ rfl rfl (Eff.storeCell (cs := [.slice (A_v) (acc.length) (c_v)]) (cs' := [.slice (A_v2) ((acc ++ [enP l st]).length) (c_v2)]) rfl rfl rfl Try.sizeOf39 rfl hb_b2 rfl rfl) ?_
    rintro _ w11 ⟨ho_w11, hb_new⟩
    replace hb_b1 := ho_w11.get hb_b1 (by omega)
    replace hb_b_8 := ho_w11.get hb_b_8 (by omega)
    replace hb_b2 := hb_new
    replace hb_b3 := ho_w11.get hb_b3 (by omega)
    replace hO := hO.trans ho_w11 (by intro i hi1 hi2; first | exact hi2 | (exfalso; omega) | (left; exact hi2) | (right; exact hi2) | (right; left; exact hi2))
    replace hv_8 := hv_8.only ho_w11 (fun q hq h => absurd (show q = b2 from h) (by have := hv_8.2 q hq; have := hl_hv_8_b2 q hq; omega))
    replace hv_v2 := hv_v2.only ho_w11 (fun q hq h => absurd (show q = b2 from h) (by have := hv_v2.2 q hq; omega))
    replace hE_lo1 := hE_lo1.trans ho_w11 (fun i hi1 hi2 => by have h3 : i = b2 := hi2; show i = b_8 ∨ i = b2; omega)
    refine WL.fin ?_
    refine Nm.block ?_
    refine Nm.code ?_
    refine W.region ?_
    refine WL.yield rfl rfl rfl (Yield.move rfl rfl) ?_
    refine WL.yield rfl rfl rfl (Yield.ar (v' := .int .u64 (((k - 1 : Nat) : Int))) rfl rfl rfl rfl (int_eq (by rw [wrap_u64 (by omega) (by omega)]; omega))) ?_
    refine WL.yield rfl rfl rfl (Yield.assign rfl rfl) ?_
    refine WL.fin ?_
    have hv_v := hv_v2
    refine Nm.again ⟨k - 1, stP l st, acc ++ [enP l st], A_s3, c_s3, A_v2, c_v2⟩ (Env.has_cons rfl (Env.has_cons rfl (Env.has_cons rfl (Env.has_cons rfl (Env.has_cons rfl Env.has_nil))))) ⟨⟨hR_s3, by rw [← hp.2.1, runP_step hk], by rw [List.length_append]; show acc.length + 1 + (k - 1) ≤ l.length; omega⟩, hO, hE_lo1, hb_b1, hb_b_8, hb_b2, hv_v⟩ (by show k - 1 < k; omega)
  · refine W.exitX ?_
    refine Ex.thenX ?_
    refine Ex.thenX ?_
    refine Ex.hit ?_
    refine Nm.code ?_
    refine W.seq ?_
    refine W.seq ?_
    refine W.region ?_
    refine WL.yield rfl rfl rfl (Yield.move rfl rfl) ?_
    refine WL.eff _ rfl rfl (Eff.fn rfl rfl Try.call76 (by rintro _ rfl; exact rend_any _ b_8 l _ _ st hb_b_8)) ?_
    have hlt_b1_w5 : b1 < w5.heap.size := blk_lt hb_b1
    have hlt_b_8_w5 : b_8 < w5.heap.size := blk_lt hb_b_8
    have hlt_b2_w5 : b2 < w5.heap.size := blk_lt hb_b2
    have hz_w5 := hO.size
    rintro _ w12 ⟨ho_w12, rfl⟩
    replace hb_b1 := ho_w12.get hb_b1
    replace hb_b_8 := ho_w12.get hb_b_8
    replace hb_b2 := ho_w12.get hb_b2
    replace hO := hO.ext ho_w12
    replace hv_8 := hv_8.ext ho_w12
    replace hv_v := hv_v.ext ho_w12
    refine WL.yield rfl rfl rfl (Yield.not rfl rfl) ?_
    refine WL.yield rfl rfl rfl (Yield.move rfl rfl) ?_
    rcases Bool.eq_false_or_eq_true (!(endO l st)) with hend | hend
    · rw [hend]
      refine WL.skip_g rfl rfl rfl ?_
      refine WL.skip_g rfl rfl rfl ?_
      refine WL.skip_g rfl rfl rfl ?_
      refine WL.yield rfl rfl rfl (Yield.pick_t rfl rfl rfl) ?_
      refine WL.fin ?_
      refine Nm.code ?_
      refine W.cond_true rfl ?_
      refine W.seq ?_
      refine W.region ?_
      refine WL.yield rfl rfl rfl (Yield.build (cells := #[.slice (none) (0) (0)]) rfl rfl (by kernel_rfl)) ?_
      refine WL.eff _ rfl rfl (Eff.storeBlk (vs := [.slice (none) (0) (0)]) (cs := [.slice (none) (0) (0)]) (cs' := [.slice (none) (0) (0)]) rfl rfl rfl Try.sizeOf41 rfl (List.forall_mem_cons.2 ⟨rfl, (fun _ h => nomatch h)⟩) hb_b1 rfl rfl) ?_
      rintro _ w13 ⟨ho_w13, hb_new⟩
      replace hb_b1 := hb_new
      replace hb_b_8 := ho_w13.get hb_b_8 (by omega)
      replace hb_b2 := ho_w13.get hb_b2 (by omega)
      replace hO := hO.trans ho_w13 (by intro i hi1 hi2; first | exact hi2 | (exfalso; omega) | (left; exact hi2) | (right; exact hi2) | (right; left; exact hi2))
      replace hv_8 := hv_8.only ho_w13 (fun q hq h => absurd (show q = b1 from h) (by have := hv_8.2 q hq; omega))
      replace hv_v := hv_v.only ho_w13 (fun q hq h => absurd (show q = b1 from h) (by have := hv_v.2 q hq; omega))
      refine WL.yield rfl rfl rfl (Yield.assign rfl rfl) ?_
      refine WL.fin ?_
      refine Nm.code ?_
      refine W.ret_postW (fun _ _ h => h) Try.results31 (resW_cell rfl (loadVar_agg (cs := [.slice (none) (0) (0)]) Try.isAgg41 Try.sizeOf41 (blk_cells hb_b1 rfl)) (resW_tmp rfl resW_nil)) ?_
      have hg : getP l = endF l (st, acc) := by unfold getP; rw [← hp.2.1, show k = 0 by omega]; rfl
      have hy : getP l = none := by rw [hg]; exact endF_no (by first | exact .inl (by simpa using hend) | exact .inr (by simpa using hc1))
      rw [hy]
      exact ⟨hO, none, 0, rfl, Nat.le_refl _, Nw.nil _ _ _ _⟩
    · rw [hend]
      refine WL.yield_g rfl rfl rfl (Yield.loadAgg (cs := [.slice (A_v) (acc.length) (c_v)]) rfl rfl Try.isAgg41 Try.sizeOf41 (blk_cells hb_b2 rfl)) ?_
      refine WL.eff _ rfl rfl (Eff.fn rfl rfl Try.call21 (by rintro _ rfl; exact good_any _ _ _ _ hv_v.rd (by omega))) ?_
      have hlt_b1_w12 : b1 < w12.heap.size := blk_lt hb_b1
      have hlt_b_8_w12 : b_8 < w12.heap.size := blk_lt hb_b_8
      have hlt_b2_w12 : b2 < w12.heap.size := blk_lt hb_b2
      have hz_w12 := hO.size
      rintro _ w14 ⟨ho_w14, rfl⟩
      replace hb_b1 := ho_w14.get hb_b1
      replace hb_b_8 := ho_w14.get hb_b_8
      replace hb_b2 := ho_w14.get hb_b2
      replace hO := hO.ext ho_w14
      replace hv_8 := hv_8.ext ho_w14
      replace hv_v := hv_v.ext ho_w14
      refine WL.yield_g rfl rfl rfl (Yield.not rfl rfl) ?_
      refine WL.yield rfl rfl rfl (Yield.pick_f rfl rfl rfl) ?_
      refine WL.fin ?_
      refine Nm.code ?_
      refine W.cond rfl (fun hc1 => ?_) (fun hc1 => ?_)
      · refine W.seq ?_
        refine W.region ?_
        refine WL.yield rfl rfl rfl (Yield.build (cells := #[.slice (none) (0) (0)]) rfl rfl (by kernel_rfl)) ?_
        refine WL.eff _ rfl rfl (Eff.storeBlk (vs := [.slice (none) (0) (0)]) (cs := [.slice (none) (0) (0)]) (cs' := [.slice (none) (0) (0)]) rfl rfl rfl Try.sizeOf41 rfl (List.forall_mem_cons.2 ⟨rfl, (fun _ h => nomatch h)⟩) hb_b1 rfl rfl) ?_
        rintro _ w15 ⟨ho_w15, hb_new⟩
        replace hb_b1 := hb_new
        replace hb_b_8 := ho_w15.get hb_b_8 (by omega)
        replace hb_b2 := ho_w15.get hb_b2 (by omega)
        replace hO := hO.trans ho_w15 (by intro i hi1 hi2; first | exact hi2 | (exfalso; omega) | (left; exact hi2) | (right; exact hi2) | (right; left; exact hi2))
        replace hv_8 := hv_8.only ho_w15 (fun q hq h => absurd (show q = b1 from h) (by have := hv_8.2 q hq; omega))
        replace hv_v := hv_v.only ho_w15 (fun q hq h => absurd (show q = b1 from h) (by have := hv_v.2 q hq; omega))
        refine WL.yield rfl rfl rfl (Yield.assign rfl rfl) ?_
        refine WL.fin ?_
        refine Nm.code ?_
        refine W.ret_postW (fun _ _ h => h) Try.results31 (resW_cell rfl (loadVar_agg (cs := [.slice (none) (0) (0)]) Try.isAgg41 Try.sizeOf41 (blk_cells hb_b1 rfl)) (resW_tmp rfl resW_nil)) ?_
        have hg : getP l = endF l (st, acc) := by unfold getP; rw [← hp.2.1, show k = 0 by omega]; rfl
        have hy : getP l = none := by rw [hg]; exact endF_no (by first | exact .inl (by simpa using hend) | exact .inr (by simpa using hc1))
        rw [hy]
        exact ⟨hO, none, 0, rfl, Nat.le_refl _, Nw.nil _ _ _ _⟩
      · refine W.skipN ?_
        refine Nm.code ?_
        refine W.seq ?_
        refine W.region ?_
        refine WL.yield rfl rfl rfl (Yield.loadAgg (cs := [.slice (A_v) (acc.length) (c_v)]) rfl rfl Try.isAgg41 Try.sizeOf41 (blk_cells hb_b2 rfl)) ?_
        refine WL.eff _ rfl rfl (Eff.storeBlk (vs := [.slice (A_v) (acc.length) (c_v)]) (cs := [.slice (none) (0) (0)]) (cs' := [.slice (A_v) (acc.length) (c_v)]) rfl rfl rfl Try.sizeOf41 rfl (List.forall_mem_cons.2 ⟨rfl, (fun _ h => nomatch h)⟩) hb_b1 rfl rfl) ?_
        rintro _ w16 ⟨ho_w16, hb_new⟩
        replace hb_b1 := hb_new
        replace hb_b_8 := ho_w16.get hb_b_8 (by omega)
        replace hb_b2 := ho_w16.get hb_b2 (by omega)
        replace hO := hO.trans ho_w16 (by intro i hi1 hi2; first | exact hi2 | (exfalso; omega) | (left; exact hi2) | (right; exact hi2) | (right; left; exact hi2))
        replace hv_8 := hv_8.only ho_w16 (fun q hq h => absurd (show q = b1 from h) (by have := hv_8.2 q hq; omega))
        replace hv_v := hv_v.only ho_w16 (fun q hq h => absurd (show q = b1 from h) (by have := hv_v.2 q hq; omega))
        refine WL.yield rfl rfl rfl (Yield.assign rfl rfl) ?_
        refine WL.fin ?_
        refine Nm.code ?_
        refine W.ret_postW (fun _ _ h => h) Try.results31 (resW_cell rfl (loadVar_agg (cs := [.slice (A_v) (acc.length) (c_v)]) Try.isAgg41 Try.sizeOf41 (blk_cells hb_b1 rfl)) (resW_tmp rfl resW_nil)) ?_
        have hg : getP l = endF l (st, acc) := by unfold getP; rw [← hp.2.1, show k = 0 by omega]; rfl
        have hy : getP l = some acc := by rw [hg]; exact endF_yes (by simpa using hend) (by simpa using hc1)
        rw [hy]
        exact ⟨hO, _, _, rfl, (hv_v.sl).elim (fun _ h => h.elim (fun _ h => by cases h.1; exact h.2.1)), hv_v.le (by omega)⟩

theorem rget_log (w : World) (A : Option Addr) (c : Nat) (l : List UInt8) (hr : Rd encB w A l) (hcl : l.length ≤ c) :
    Fc Try.prog 32 #[.slice (A) (l.length) (c)] w (fun v w' => Ext w w' ∧ ∃ A' c', v = .tuple #[.slice A' ((getR l).getD []).length c', .bool (getR l).isSome] ∧ ((getR l).getD []).length ≤ c' ∧ Nw w.heap.size encEn 66 ((getR l).getD []) (.slice A' ((getR l).getD []).length c') w') := by
  refine Fc.enter (args := [.slice (A) (l.length) (c)]) Try.func32 rfl Try.ntmps32 rfl ?_
  intro K_
  have hO : Only (fun _ => False) w w := Only.refl _ _
  refine W.seq ?_
  refine W.region ?_
  refine WL.yield rfl rfl rfl (Yield.assign rfl rfl) ?_
  refine WL.yield rfl rfl rfl (Yield.assign rfl rfl) ?_
  refine WL.fin ?_
  refine Nm.code ?_
  refine W.seq ?_
  refine W.region ?_
  refine WL.yield rfl rfl rfl (Yield.move rfl rfl) ?_
  refine WL.yield rfl rfl rfl (Yield.build (cells := #[.slice (A) (l.length) (c), .bool false]) rfl rfl (by kernel_rfl)) ?_
  refine WL.eff _ rfl rfl (Eff.box rfl rfl) ?_
  rintro _ w1 ⟨_, b1, rfl, hs_b1, rfl, he_w1⟩
  have hb_b1 : w1.heap[b1]? = some (.cells #[.slice (A) (l.length) (c), .bool false] 138 (0, 0)) := by rw [he_w1, hs_b1]; exact new_get _ _
  have ho_w1 : Ext w w1 := by rw [he_w1]; exact Ext.alloc _ _
  clear he_w1
  have hn_b1 : w.heap.size ≤ b1 := by rw [hs_b1]; exact hO.size
  replace hO := hO.ext ho_w1
  refine WL.yield rfl rfl rfl (Yield.assign rfl rfl) ?_
  refine WL.fin ?_
  refine Nm.code ?_
  refine W.seq ?_
  refine W.region ?_
  refine WL.yield rfl rfl rfl (Yield.move rfl rfl) ?_
  refine WL.eff _ rfl rfl (Eff.fn rfl rfl Try.call77 (by rintro _ rfl; exact fnum_any _ b1 A l _ _ (some 0) hb_b1 (RdP.zero hcl) (hr.ext hO) 4294967296)) ?_
  have hlt_b1_w1 : b1 < w1.heap.size := blk_lt hb_b1
  have hz_w1 := hO.size
  rintro _ w2 ⟨ho_w2, rfl, A_r, c_r, hb_new, hR_r⟩
  replace hb_b1 := hb_new
  replace hO := hO.trans ho_w2 (by intro i hi1 hi2; first | exact hi2 | (exfalso; omega) | (left; exact hi2) | (right; exact hi2) | (right; left; exact hi2))
  refine WL.yield rfl rfl rfl (Yield.assign rfl rfl) ?_
  refine WL.fin ?_
  refine Nm.code ?_
  refine W.seq ?_
  refine W.region ?_
  refine WL.yield rfl rfl rfl (Yield.assign rfl rfl) ?_
  refine WL.fin ?_
  refine Nm.code ?_
  refine W.seq ?_
  refine W.seq ?_
  refine W.region ?_
  refine WL.yield rfl rfl rfl (Yield.assign rfl rfl) ?_
  refine WL.fin ?_
  refine Nm.code ?_
  refine W.block ?_
  have hz_w2 := hO.size
  have hlt_b1_w2 : b1 < w2.heap.size := blk_lt hb_b1
  refine W.loop (σ := Nat × Option Nat × List En × Option Addr × Nat × Option Addr × Nat) (fun ⟨i, st, acc, A_r, c_r, A_v, c_v⟩ => [(2, .slice (none) (0) (0)), (3, .bool false), (4, .pointer (some ⟨b1, 0, none⟩)), (5, .int .u64 ((numV l 4294967296 (some 0) : Int))), (7, .int .u64 ((i : Int))), (6, .slice (A_v) (acc.length) (c_v))]) (fun ⟨i, st, acc, A_r, c_r, A_v, c_v⟩ ww => ((RdP A l A_r c_r st ∧ i ≤ (numV l 4294967296 (some 0)) ∧ runR l ((numV l 4294967296 (some 0)) - i) st acc = runR l (numV l 4294967296 (some 0)) (numS l 4294967296 (some 0)) [] ∧ acc.length ≤ i) ∧ Only (fun _ => False) w ww ∧ Only (fun k => k = b1) w2 ww ∧ ww.heap[b1]? = some (.cells #[(rdA A_r c_r l st), .bool (badO st)] 138 (0, 0)) ∧ Nw w2.heap.size encEn 66 acc (.slice A_v acc.length c_v) ww)) (fun ⟨i, st, acc, A_r, c_r, A_v, c_v⟩ => ((numV l 4294967296 (some 0)) - i)) ⟨0, (numS l 4294967296 (some 0)), [], A_r, c_r, none, 0⟩ (Env.has_cons rfl (Env.has_cons rfl (Env.has_cons rfl (Env.has_cons rfl (Env.has_cons rfl (Env.has_cons rfl Env.has_nil)))))) ⟨⟨hR_r, Nat.zero_le _, rfl, Nat.le_refl _⟩, hO, Only.refl _ _, hb_b1, Nw.nil _ _ _ _⟩ ?_
  clear hO hb_b1
  rintro ⟨i, st, acc, A_r, c_r, A_v, c_v⟩ w3 ⟨hp, hO, hE_lo1, hb_b1, hv_v⟩
  have hn1 := numV_le l 4294967296 (some 0)
  refine W.seq ?_
  refine W.seq ?_
  refine W.region ?_
  refine WL.yield rfl rfl rfl (Yield.move rfl rfl) ?_
  refine WL.yield rfl rfl rfl (Yield.move rfl rfl) ?_
  refine WL.yield rfl rfl rfl (Yield.ar (v' := .bool (decide (i < (numV l 4294967296 (some 0))))) rfl rfl rfl rfl (bool_dec (by omega))) ?_
  refine WL.yield rfl rfl rfl (Yield.move rfl rfl) ?_
  by_cases hi : i < (numV l 4294967296 (some 0))
  · rw [decide_eq_true hi]
    refine WL.yield_g rfl rfl rfl (Yield.move rfl rfl) ?_
    refine WL.yield_g rfl rfl rfl (Yield.nilCheck rfl rfl) ?_
    refine WL.yield_g rfl rfl rfl (Yield.fieldAt (k := 1) rfl rfl Try.runUnderlying138 rfl Try.sizeOf4 rfl) ?_
    refine WL.yield_g rfl rfl rfl (Yield.load (v := .bool (badO st)) rfl rfl Try.isAgg4 (cell_get hb_b1 rfl)) ?_
    refine WL.yield_g rfl rfl rfl (Yield.not rfl rfl) ?_
    refine WL.yield rfl rfl rfl (Yield.pick_t rfl rfl rfl) ?_
    refine WL.fin ?_
    refine Nm.code ?_
    refine W.cond rfl (fun hc0 => ?_) (fun hc0 => ?_)
    · have hbad : badO st = false := by simpa using hc0
      refine W.skipN ?_
      refine Nm.code ?_
      refine W.seq ?_
      refine W.block ?_
      refine W.seq ?_
      refine W.region ?_
      refine WL.yield rfl rfl rfl (Yield.move rfl rfl) ?_
      refine WL.eff _ rfl rfl (Eff.fn rfl rfl Try.call77 (by rintro _ rfl; exact fnum_any _ b1 A l _ _ st hb_b1 hp.1 (hr.ext hO) 15)) ?_
      have hlt_b1_w3 : b1 < w3.heap.size := blk_lt hb_b1
      have hz_w3 := hO.size
      rintro _ w4 ⟨ho_w4, rfl, A_s1, c_s1, hb_new, hR_s1⟩
      replace hb_b1 := hb_new
      replace hO := hO.trans ho_w4 (by intro i hi1 hi2; first | exact hi2 | (exfalso; omega) | (left; exact hi2) | (right; exact hi2) | (right; left; exact hi2))
      replace hv_v := hv_v.only ho_w4 (fun q hq h => absurd (show q = b1 from h) (by have := hv_v.2 q hq; omega))
      replace hE_lo1 := hE_lo1.trans ho_w4 (fun i hi1 hi2 => by have h3 : i = b1 := hi2; show i = b1; omega)
      refine WL.yield rfl rfl rfl ((Yield.convInt rfl rfl Try.runUnderlying32 Try.runUnderlying3).cast (v' := .int .i64 (((numV l 15 st : Nat) : Int))) (int_eq (wrap_i64 (by omega) (by have := numV_le l 15 st; omega)))) ?_
      refine WL.yield rfl rfl rfl (Yield.build (cells := #[.int .i64 (((numV l 15 st : Nat) : Int)), .int .u64 (0), .int .u64 (0)]) rfl rfl (by kernel_rfl)) ?_
      refine WL.eff _ rfl rfl (Eff.alloc rfl Try.zeroValue66) ?_
      rintro _ w5 ⟨_, b2, rfl, hs_b2, rfl, he_w5⟩
      have hb_b2 : w5.heap[b2]? = some (.cells #[.int .i64 (0), .int .u64 (0), .int .u64 (0)] 66 (0, 0)) := by rw [he_w5, hs_b2]; exact new_get _ _
      have ho_w5 : Ext w4 w5 := by rw [he_w5]; exact Ext.alloc _ _
      clear he_w5
      have hn_b2 : w.heap.size ≤ b2 := by rw [hs_b2]; exact hO.size
      have hn_b2_hE_lo1 : w2.heap.size ≤ b2 := by rw [hs_b2]; exact hE_lo1.size
      have hl_hv_v_b2 := Nw.below hv_v (Nat.le_of_eq hs_b2.symm)
      have hq_b1_b2 : b1 < b2 := by rw [hs_b2]; exact blk_lt hb_b1
      replace hb_b1 := ho_w5.get hb_b1
      replace hO := hO.ext ho_w5
      replace hv_v := hv_v.ext ho_w5
      replace hE_lo1 := hE_lo1.ext ho_w5
      refine WL.eff _ rfl rfl (Eff.storeBlk (vs := [.int .i64 (((numV l 15 st : Nat) : Int)), .int .u64 (0), .int .u64 (0)]) (cs := [.int .i64 (0), .int .u64 (0), .int .u64 (0)]) (cs' := [.int .i64 (((numV l 15 st : Nat) : Int)), .int .u64 (0), .int .u64 (0)]) rfl rfl rfl Try.sizeOf66 rfl (List.forall_mem_cons.2 ⟨rfl, (List.forall_mem_cons.2 ⟨rfl, (List.forall_mem_cons.2 ⟨rfl, (fun _ h => nomatch h)⟩)⟩)⟩) hb_b2 rfl rfl) ?_
      rintro _ w6 ⟨ho_w6, hb_new⟩
      replace hb_b1 := ho_w6.get hb_b1 (by omega)
      replace hb_b2 := hb_new
      replace hO := hO.trans ho_w6 (by intro i hi1 hi2; first | exact hi2 | (exfalso; omega) | (left; exact hi2) | (right; exact hi2) | (right; left; exact hi2))
      replace hv_v := hv_v.only ho_w6 (fun q hq h => absurd (show q = b2 from h) (by have := hv_v.2 q hq; have := hl_hv_v_b2 q hq; omega))
      replace hE_lo1 := hE_lo1.trans ho_w6 (fun i hi1 hi2 => by have h3 : i = b2 := hi2; show i = b1; omega)
      refine WL.fin ?_
      refine Nm.code ?_
      refine W.seq ?_
      refine W.region ?_
      refine WL.yield rfl rfl rfl (Yield.move rfl rfl) ?_
      refine WL.eff _ rfl rfl (Eff.fn rfl rfl Try.call77 (by rintro _ rfl; exact fnum_bv _ b1 A l _ _ (numS l 15 st) hb_b1 hR_s1 (hr.ext hO) M64)) ?_
      have hlt_b1_w6 : b1 < w6.heap.size := blk_lt hb_b1
      have hlt_b2_w6 : b2 < w6.heap.size := blk_lt hb_b2
      have hz_w6 := hO.size
      rintro _ w7 ⟨ho_w7, rfl, A_s2, c_s2, hb_new, hR_s2⟩
      replace hb_b1 := hb_new
      replace hb_b2 := ho_w7.get hb_b2 (by omega)
      replace hO := hO.trans ho_w7 (by intro i hi1 hi2; first | exact hi2 | (exfalso; omega) | (left; exact hi2) | (right; exact hi2) | (right; left; exact hi2))
      replace hv_v := hv_v.only ho_w7 (fun q hq h => absurd (show q = b1 from h) (by have := hv_v.2 q hq; omega))
      replace hE_lo1 := hE_lo1.trans ho_w7 (fun i hi1 hi2 => by have h3 : i = b1 := hi2; show i = b1; omega)
      refine WL.yield rfl rfl rfl (Yield.fieldAt (k := 1) rfl rfl Try.runUnderlying66 rfl Try.sizeOf32 rfl) ?_
      refine WL.eff _ rfl rfl (Eff.storeCell (cs := [.int .i64 (((numV l 15 st : Nat) : Int)), .int .u64 (0), .int .u64 (0)]) (cs' := [.int .i64 (((numV l 15 st : Nat) : Int)), .int .u64 (((BitVec.ofNat 64 (numV l M64 (numS l 15 st))).toNat : Int)), .int .u64 (0)]) rfl rfl rfl Try.sizeOf32 rfl hb_b2 rfl rfl) ?_
      rintro _ w8 ⟨ho_w8, hb_new⟩
      replace hb_b1 := ho_w8.get hb_b1 (by omega)
      replace hb_b2 := hb_new
      replace hO := hO.trans ho_w8 (by intro i hi1 hi2; first | exact hi2 | (exfalso; omega) | (left; exact hi2) | (right; exact hi2) | (right; left; exact hi2))
      replace hv_v := hv_v.only ho_w8 (fun q hq h => absurd (show q = b2 from h) (by have := hv_v.2 q hq; have := hl_hv_v_b2 q hq; omega))
      replace hE_lo1 := hE_lo1.trans ho_w8 (fun i hi1 hi2 => by have h3 : i = b2 := hi2; show i = b1; omega)
      refine WL.fin ?_
      refine Nm.code ?_
      refine W.seq ?_
      refine W.region ?_
      refine WL.yield rfl rfl rfl (Yield.move rfl rfl) ?_
      refine WL.eff _ rfl rfl (Eff.fn rfl rfl Try.call77 (by rintro _ rfl; exact fnum_bv _ b1 A l _ _ (numS l M64 (numS l 15 st)) hb_b1 hR_s2 (hr.ext hO) 65535)) ?_
      have hlt_b1_w8 : b1 < w8.heap.size := blk_lt hb_b1
      have hlt_b2_w8 : b2 < w8.heap.size := blk_lt hb_b2
      have hz_w8 := hO.size
      rintro _ w9 ⟨ho_w9, rfl, A_s3, c_s3, hb_new, hR_s3⟩
      replace hb_b1 := hb_new
      replace hb_b2 := ho_w9.get hb_b2 (by omega)
      replace hO := hO.trans ho_w9 (by intro i hi1 hi2; first | exact hi2 | (exfalso; omega) | (left; exact hi2) | (right; exact hi2) | (right; left; exact hi2))
      replace hv_v := hv_v.only ho_w9 (fun q hq h => absurd (show q = b1 from h) (by have := hv_v.2 q hq; omega))
      replace hE_lo1 := hE_lo1.trans ho_w9 (fun i hi1 hi2 => by have h3 : i = b1 := hi2; show i = b1; omega)
      refine WL.yield rfl rfl rfl (Yield.fieldAt (k := 2) rfl rfl Try.runUnderlying66 rfl Try.sizeOf32 rfl) ?_
      refine WL.eff _ rfl rfl (Eff.storeCell (cs := [.int .i64 (((numV l 15 st : Nat) : Int)), .int .u64 (((BitVec.ofNat 64 (numV l M64 (numS l 15 st))).toNat : Int)), .int .u64 (0)]) (cs' := [.int .i64 (((numV l 15 st : Nat) : Int)), .int .u64 (((BitVec.ofNat 64 (numV l M64 (numS l 15 st))).toNat : Int)), .int .u64 (((BitVec.ofNat 64 (numV l 65535 (numS l M64 (numS l 15 st)))).toNat : Int))]) rfl rfl rfl Try.sizeOf32 rfl hb_b2 rfl rfl) ?_
      rintro _ w10 ⟨ho_w10, hb_new⟩
      replace hb_b1 := ho_w10.get hb_b1 (by omega)
      replace hb_b2 := hb_new
      replace hO := hO.trans ho_w10 (by intro i hi1 hi2; first | exact hi2 | (exfalso; omega) | (left; exact hi2) | (right; exact hi2) | (right; left; exact hi2))
      replace hv_v := hv_v.only ho_w10 (fun q hq h => absurd (show q = b2 from h) (by have := hv_v.2 q hq; have := hl_hv_v_b2 q hq; omega))
      replace hE_lo1 := hE_lo1.trans ho_w10 (fun i hi1 hi2 => by have h3 : i = b2 := hi2; show i = b1; omega)
      refine WL.fin ?_
      refine Nm.code ?_
      refine W.region ?_
      refine WL.yield rfl rfl rfl (Yield.move rfl rfl) ?_
      refine WL.yield rfl rfl rfl (Yield.loadAgg (cs := [.int .i64 (((numV l 15 st : Nat) : Int)), .int .u64 (((BitVec.ofNat 64 (numV l M64 (numS l 15 st))).toNat : Int)), .int .u64 (((BitVec.ofNat 64 (numV l 65535 (numS l M64 (numS l 15 st)))).toNat : Int))]) rfl rfl Try.isAgg66 Try.sizeOf66 (blk_cells hb_b2 rfl)) ?_
      refine WL.eff _ rfl rfl (Eff.buildSlice (cs := [.int .i64 (((numV l 15 st : Nat) : Int)), .int .u64 (((BitVec.ofNat 64 (numV l M64 (numS l 15 st))).toNat : Int)), .int .u64 (((BitVec.ofNat 64 (numV l 65535 (numS l M64 (numS l 15 st)))).toNat : Int))]) [.agg #[.int .i64 (((numV l 15 st : Nat) : Int)), .int .u64 (((BitVec.ofNat 64 (numV l M64 (numS l 15 st))).toNat : Int)), .int .u64 (((BitVec.ofNat 64 (numV l 65535 (numS l M64 (numS l 15 st)))).toNat : Int))]] rfl rfl Try.runUnderlying45 Try.sizeOf66 Try.zeroValue66 rfl rfl rfl (List.forall_mem_cons.2 ⟨rfl, (fun _ h => nomatch h)⟩) rfl) ?_
      rintro _ w11 ⟨_, b3, rfl, hs_b3, rfl, he_w11⟩
      have hb_b3 : w11.heap[b3]? = some (.cells #[.int .i64 (((numV l 15 st : Nat) : Int)), .int .u64 (((BitVec.ofNat 64 (numV l M64 (numS l 15 st))).toNat : Int)), .int .u64 (((BitVec.ofNat 64 (numV l 65535 (numS l M64 (numS l 15 st)))).toNat : Int))] 66 (0, 0)) := by rw [he_w11, hs_b3]; exact new_get _ _
      have ho_w11 : Ext w10 w11 := by rw [he_w11]; exact Ext.alloc _ _
      clear he_w11
      have hn_b3 : w.heap.size ≤ b3 := by rw [hs_b3]; exact hO.size
      have hn_b3_hE_lo1 : w2.heap.size ≤ b3 := by rw [hs_b3]; exact hE_lo1.size
      have hl_hv_v_b3 := Nw.below hv_v (Nat.le_of_eq hs_b3.symm)
      have hq_b1_b3 : b1 < b3 := by rw [hs_b3]; exact blk_lt hb_b1
      have hq_b2_b3 : b2 < b3 := by rw [hs_b3]; exact blk_lt hb_b2
      replace hb_b1 := ho_w11.get hb_b1
      replace hb_b2 := ho_w11.get hb_b2
      replace hO := hO.ext ho_w11
      replace hv_v := hv_v.ext ho_w11
      replace hE_lo1 := hE_lo1.ext ho_w11
      refine WL.eff _ rfl rfl (Eff.pushO (E := encEn) (xs := acc) (ys := [enR l st]) (bytes := 24) (i := Try.t66) (z := .agg #[.int .i64 (0), .int .u64 (0), .int .u64 (0)]) rfl rfl rfl rfl Try.underlying45 Try.underlying45 (by kernel_rfl) rfl rfl rfl rfl hE_lo1.size hv_v (blk_rd (E := encEn) (l := [enR l st]) hb_b3 rfl) rfl (by show (acc.length + 1) * 24 ≤ _; omega)) ?_
      rintro v_v2 w12 ⟨hw_v2, ho_w12⟩
      have hB_w12 : ∀ q, _ = some q → w2.heap.size ≤ q := fun q hq => (hv_v).2 q hq
      replace hb_b1 := ho_w12.get hb_b1 (fun h => by have h1 := hB_w12 _ h; omega)
      replace hb_b2 := ho_w12.get hb_b2 (fun h => by have h1 := hB_w12 _ h; have h2 := hl_hv_v_b2 _ h; omega)
      replace hb_b3 := ho_w12.get hb_b3 (fun h => by have h1 := hB_w12 _ h; have h2 := hl_hv_v_b3 _ h; omega)
      replace hO := hO.trans ho_w12 (fun i hi1 hi2 => by have h1 := hB_w12 _ hi2; first | (exfalso; omega) | omega)
      replace hE_lo1 := hE_lo1.trans ho_w12 (fun i hi1 hi2 => by have h1 := hB_w12 _ hi2; exfalso; omega)
      obtain ⟨A_v2, c_v2, rfl, hc_v2, hv_v2⟩ := hw_v2.toSl
      refine WL.yield rfl rfl rfl (Yield.assign rfl rfl) ?_
      refine WL.fin ?_
      refine Nm.block ?_
      refine Nm.code ?_
      refine W.region ?_
      refine WL.yield rfl rfl rfl (Yield.move rfl rfl) ?_
      refine WL.yield rfl rfl rfl (Yield.ar (v' := .int .u64 (((i + 1 : Nat) : Int))) rfl rfl rfl rfl (int_eq (by rw [wrap_u64 (by omega) (by omega)]; omega))) ?_
      refine WL.yield rfl rfl rfl (Yield.assign rfl rfl) ?_
      refine WL.fin ?_
      have hv_v := hv_v2
      refine Nm.again ⟨i + 1, stR l st, acc ++ [enR l st], A_s3, c_s3, A_v2, c_v2⟩ (Env.has_cons rfl (Env.has_cons rfl (Env.has_cons rfl (Env.has_cons rfl (Env.has_cons rfl (Env.has_cons rfl Env.has_nil)))))) ⟨⟨hR_s3, by omega, by rw [← hp.2.2.1, runR_step hi hbad], by rw [List.length_append]; show acc.length + 1 ≤ i + 1; omega⟩, hO, hE_lo1, hb_b1, hv_v⟩ (by show (numV l 4294967296 (some 0)) - (i + 1) < (numV l 4294967296 (some 0)) - i; omega)
    · refine W.exitX ?_
      refine Ex.thenX ?_
      refine Ex.thenX ?_
      refine Ex.hit ?_
      refine Nm.code ?_
      refine W.seq ?_
      refine W.seq ?_
      refine W.region ?_
      refine WL.yield rfl rfl rfl (Yield.move rfl rfl) ?_
      refine WL.eff _ rfl rfl (Eff.fn rfl rfl Try.call78 (by rintro _ rfl; exact fend_any _ b1 l _ _ st hb_b1)) ?_
      have hlt_b1_w3 : b1 < w3.heap.size := blk_lt hb_b1
      have hz_w3 := hO.size
      rintro _ w13 ⟨ho_w13, rfl⟩
      replace hb_b1 := ho_w13.get hb_b1
      replace hO := hO.ext ho_w13
      replace hv_v := hv_v.ext ho_w13
      refine WL.yield rfl rfl rfl (Yield.not rfl rfl) ?_
      refine WL.yield rfl rfl rfl (Yield.move rfl rfl) ?_
      rcases Bool.eq_false_or_eq_true (!(endO l st)) with hend | hend
      · rw [hend]
        refine WL.skip_g rfl rfl rfl ?_
        refine WL.skip_g rfl rfl rfl ?_
        refine WL.skip_g rfl rfl rfl ?_
        refine WL.yield rfl rfl rfl (Yield.pick_t rfl rfl rfl) ?_
        refine WL.fin ?_
        refine Nm.code ?_
        refine W.cond_true rfl ?_
        refine W.seq ?_
        refine W.region ?_
        refine WL.yield rfl rfl rfl (Yield.assign rfl rfl) ?_
        refine WL.yield rfl rfl rfl (Yield.assign rfl rfl) ?_
        refine WL.fin ?_
        refine Nm.code ?_
        refine W.ret_post (fun _ _ h => h) Try.results32 rfl ?_
        have hg : getR l = endF l (st, acc) := by
          unfold getR
          rw [← hp.2.2.1]
          first
            | (rw [show (numV l 4294967296 (some 0)) - i = 0 by omega]; rfl)
            | rw [runR_bad (by simpa using hc0)]
        have hy : getR l = none := by rw [hg]; exact endF_no (by first | exact .inl (by simpa using hend) | exact .inr (by simpa using hc1))
        rw [hy]
        exact ⟨hO, none, 0, rfl, Nat.le_refl _, Nw.nil _ _ _ _⟩
      · rw [hend]
        refine WL.yield_g rfl rfl rfl (Yield.move rfl rfl) ?_
        refine WL.eff _ rfl rfl (Eff.fn rfl rfl Try.call34 (by rintro _ rfl; exact rgood_any _ _ _ _ hv_v.rd (by omega))) ?_
        have hlt_b1_w13 : b1 < w13.heap.size := blk_lt hb_b1
        have hz_w13 := hO.size
        rintro _ w14 ⟨ho_w14, rfl⟩
        replace hb_b1 := ho_w14.get hb_b1
        replace hO := hO.ext ho_w14
        replace hv_v := hv_v.ext ho_w14
        refine WL.yield_g rfl rfl rfl (Yield.not rfl rfl) ?_
        refine WL.yield rfl rfl rfl (Yield.pick_f rfl rfl rfl) ?_
        refine WL.fin ?_
        refine Nm.code ?_
        refine W.cond rfl (fun hc1 => ?_) (fun hc1 => ?_)
        · refine W.seq ?_
          refine W.region ?_
          refine WL.yield rfl rfl rfl (Yield.assign rfl rfl) ?_
          refine WL.yield rfl rfl rfl (Yield.assign rfl rfl) ?_
          refine WL.fin ?_
          refine Nm.code ?_
          refine W.ret_post (fun _ _ h => h) Try.results32 rfl ?_
          have hg : getR l = endF l (st, acc) := by
            unfold getR
            rw [← hp.2.2.1]
            first
              | (rw [show (numV l 4294967296 (some 0)) - i = 0 by omega]; rfl)
              | rw [runR_bad (by simpa using hc0)]
          have hy : getR l = none := by rw [hg]; exact endF_no (by first | exact .inl (by simpa using hend) | exact .inr (by simpa using hc1))
          rw [hy]
          exact ⟨hO, none, 0, rfl, Nat.le_refl _, Nw.nil _ _ _ _⟩
        · refine W.skipN ?_
          refine Nm.code ?_
          refine W.seq ?_
          refine W.region ?_
          refine WL.yield rfl rfl rfl (Yield.move rfl rfl) ?_
          refine WL.yield rfl rfl rfl (Yield.assign rfl rfl) ?_
          refine WL.yield rfl rfl rfl (Yield.assign rfl rfl) ?_
          refine WL.fin ?_
          refine Nm.code ?_
          refine W.ret_post (fun _ _ h => h) Try.results32 rfl ?_
          have hg : getR l = endF l (st, acc) := by
            unfold getR
            rw [← hp.2.2.1]
            first
              | (rw [show (numV l 4294967296 (some 0)) - i = 0 by omega]; rfl)
              | rw [runR_bad (by simpa using hc0)]
          have hy : getR l = some acc := by rw [hg]; exact endF_yes (by simpa using hend) (by simpa using hc1)
          rw [hy]
          exact ⟨hO, _, _, rfl, (hv_v.sl).elim (fun _ h => h.elim (fun _ h => by cases h.1; exact h.2.1)), hv_v.le (by omega)⟩
  · rw [decide_eq_false hi]
    refine WL.skip_g rfl rfl rfl ?_
    refine WL.skip_g rfl rfl rfl ?_
    refine WL.skip_g rfl rfl rfl ?_
    refine WL.skip_g rfl rfl rfl ?_
    refine WL.skip_g rfl rfl rfl ?_
    refine WL.yield rfl rfl rfl (Yield.pick_f rfl rfl rfl) ?_
    refine WL.fin ?_
    refine Nm.code ?_
    refine W.cond_false rfl ?_
    refine W.exitX ?_
    refine Ex.thenX ?_
    refine Ex.thenX ?_
    refine Ex.hit ?_
    refine Nm.code ?_
    refine W.seq ?_
    refine W.seq ?_
    refine W.region ?_
    refine WL.yield rfl rfl rfl (Yield.move rfl rfl) ?_
    refine WL.eff _ rfl rfl (Eff.fn rfl rfl Try.call78 (by rintro _ rfl; exact fend_any _ b1 l _ _ st hb_b1)) ?_
    have hlt_b1_w3 : b1 < w3.heap.size := blk_lt hb_b1
    have hz_w3 := hO.size
    rintro _ w15 ⟨ho_w15, rfl⟩
    replace hb_b1 := ho_w15.get hb_b1
    replace hO := hO.ext ho_w15
    replace hv_v := hv_v.ext ho_w15
    refine WL.yield rfl rfl rfl (Yield.not rfl rfl) ?_
    refine WL.yield rfl rfl rfl (Yield.move rfl rfl) ?_
    rcases Bool.eq_false_or_eq_true (!(endO l st)) with hend | hend
    · rw [hend]
      refine WL.skip_g rfl rfl rfl ?_
      refine WL.skip_g rfl rfl rfl ?_
      refine WL.skip_g rfl rfl rfl ?_
      refine WL.yield rfl rfl rfl (Yield.pick_t rfl rfl rfl) ?_
      refine WL.fin ?_
      refine Nm.code ?_
      refine W.cond_true rfl ?_
      refine W.seq ?_
      refine W.region ?_
      refine WL.yield rfl rfl rfl (Yield.assign rfl rfl) ?_
      refine WL.yield rfl rfl rfl (Yield.assign rfl rfl) ?_
      refine WL.fin ?_
      refine Nm.code ?_
      refine W.ret_post (fun _ _ h => h) Try.results32 rfl ?_
      have hg : getR l = endF l (st, acc) := by
        unfold getR
        rw [← hp.2.2.1]
        first
          | (rw [show (numV l 4294967296 (some 0)) - i = 0 by omega]; rfl)
          | rw [runR_bad (by simpa using hc0)]
      have hy : getR l = none := by rw [hg]; exact endF_no (by first | exact .inl (by simpa using hend) | exact .inr (by simpa using hc1))
      rw [hy]
      exact ⟨hO, none, 0, rfl, Nat.le_refl _, Nw.nil _ _ _ _⟩
    · rw [hend]
      refine WL.yield_g rfl rfl rfl (Yield.move rfl rfl) ?_
      refine WL.eff _ rfl rfl (Eff.fn rfl rfl Try.call34 (by rintro _ rfl; exact rgood_any _ _ _ _ hv_v.rd (by omega))) ?_
      have hlt_b1_w15 : b1 < w15.heap.size := blk_lt hb_b1
      have hz_w15 := hO.size
      rintro _ w16 ⟨ho_w16, rfl⟩
      replace hb_b1 := ho_w16.get hb_b1
      replace hO := hO.ext ho_w16
      replace hv_v := hv_v.ext ho_w16
      refine WL.yield_g rfl rfl rfl (Yield.not rfl rfl) ?_
      refine WL.yield rfl rfl rfl (Yield.pick_f rfl rfl rfl) ?_
      refine WL.fin ?_
      refine Nm.code ?_
      refine W.cond rfl (fun hc1 => ?_) (fun hc1 => ?_)
      · refine W.seq ?_
        refine W.region ?_
        refine WL.yield rfl rfl rfl (Yield.assign rfl rfl) ?_
        refine WL.yield rfl rfl rfl (Yield.assign rfl rfl) ?_
        refine WL.fin ?_
        refine Nm.code ?_
        refine W.ret_post (fun _ _ h => h) Try.results32 rfl ?_
        have hg : getR l = endF l (st, acc) := by
          unfold getR
          rw [← hp.2.2.1]
          first
            | (rw [show (numV l 4294967296 (some 0)) - i = 0 by omega]; rfl)
            | rw [runR_bad (by simpa using hc0)]
        have hy : getR l = none := by rw [hg]; exact endF_no (by first | exact .inl (by simpa using hend) | exact .inr (by simpa using hc1))
        rw [hy]
        exact ⟨hO, none, 0, rfl, Nat.le_refl _, Nw.nil _ _ _ _⟩
      · refine W.skipN ?_
        refine Nm.code ?_
        refine W.seq ?_
        refine W.region ?_
        refine WL.yield rfl rfl rfl (Yield.move rfl rfl) ?_
        refine WL.yield rfl rfl rfl (Yield.assign rfl rfl) ?_
        refine WL.yield rfl rfl rfl (Yield.assign rfl rfl) ?_
        refine WL.fin ?_
        refine Nm.code ?_
        refine W.ret_post (fun _ _ h => h) Try.results32 rfl ?_
        have hg : getR l = endF l (st, acc) := by
          unfold getR
          rw [← hp.2.2.1]
          first
            | (rw [show (numV l 4294967296 (some 0)) - i = 0 by omega]; rfl)
            | rw [runR_bad (by simpa using hc0)]
        have hy : getR l = some acc := by rw [hg]; exact endF_yes (by simpa using hend) (by simpa using hc1)
        rw [hy]
        exact ⟨hO, _, _, rfl, (hv_v.sl).elim (fun _ h => h.elim (fun _ h => by cases h.1; exact h.2.1)), hv_v.le (by omega)⟩

theorem rget_eq (w : World) (A : Option Addr) (c : Nat) (l : List UInt8) (hr : Rd encB w A l) (hcl : l.length ≤ c) (hlen : l.length ≤ 100000) :
    Fc Try.prog 32 #[.slice (A) (l.length) (c)] w (fun v w' => Ext w w' ∧ ∃ A' c', v = .tuple #[.slice A' ((getP l).getD []).length c', .bool (getP l).isSome] ∧ ((getP l).getD []).length ≤ c' ∧ Nw w.heap.size encEn 66 ((getP l).getD []) (.slice A' ((getP l).getD []).length c') w') := by
  have h := rget_log w A c l hr hcl
  rw [getR_eq (by omega)] at h
  exact h

theorem get_put (w : World) (A : Option Addr) (c : Nat) (l : List En) (hg : good l = true) (hlen : l.length ≤ 3000) (hr : Rd encB w A (putT l)) :
    Fc Try.prog 31 #[.slice A (putT l).length c] w (fun v w' => Ext w w' ∧ ∃ A' c', v = .tuple #[.agg #[.slice A' l.length c'], .bool true] ∧ l.length ≤ c' ∧ Nw w.heap.size encEn 51 l (.slice A' l.length c') w') := by
  have h := get_log w A c (putT l) hr (by have := putT_len l; omega)
  rw [getP_putT hg (by omega)] at h
  exact h

end Go.Proofs.Ytpnoddfjklcahaa
