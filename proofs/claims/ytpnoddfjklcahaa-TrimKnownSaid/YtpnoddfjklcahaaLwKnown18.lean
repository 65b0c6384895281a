import Derived.Test.YtpnoddfjklcahaaTr8
import Derived.Test.YtpnoddfjklcahaaTr14
import Derived.Test.YtpnoddfjklcahaaTr10
import Derived.Test.YtpnoddfjklcahaaLv18

set_option linter.all false
namespace Go.Proofs.Ytpnoddfjklcahaa
open Go Go.Lv Go.RowKit Go.Shoal


def kK : List En := [⟨0, 1, 6⟩, ⟨0, 2, 2⟩, ⟨1, 5, 0⟩]
def kO : List En := [⟨0, 1, 4⟩, ⟨0, 3, 1⟩, ⟨1, 4, 1⟩, ⟨2, 1, 1⟩]
def kB : List En := [⟨1, 1, 0⟩, ⟨0, 1, 0⟩]
def kX : En := ⟨0, 2, 4⟩
def kY : En := ⟨16, 1, 0⟩
theorem kput : putT kK = [3, 0, 1, 6, 0, 2, 2, 1, 5, 0] := by decide +kernel
theorem kget (w : World) (A : Option Addr) (c : Nat) (p : List UInt8) (hp : p = putT kK) (hr : Rd encB w A p) : Fc Try.prog 31 #[.slice A p.length c] w (fun v w' => Ext w w' ∧ ∃ A' c', v = .tuple #[.agg #[.slice A' (kK : List En).length c'], .bool true] ∧ (kK : List En).length ≤ c' ∧ Nw w.heap.size encEn 51 kK (.slice A' (kK : List En).length c') w') := by
  subst hp; exact get_put w A c kK (by decide) (by decide) hr
theorem kput0 : getP (putT kK ++ [0]) = none := by decide +kernel
theorem kget0 (w : World) (A : Option Addr) (c : Nat) (p : List UInt8) (hp : p = putT kK) (hr : Rd encB w A (p ++ [0])) : Fc Try.prog 31 #[.slice A (p ++ [0]).length c] w (fun v w' => Ext w w' ∧ ∃ A' c', v = .tuple #[.agg #[.slice A' ([] : List En).length c'], .bool false] ∧ ([] : List En).length ≤ c' ∧ Nw w.heap.size encEn 51 [] (.slice A' ([] : List En).length c') w') := by
  subst hp
  exact (get_log w A c (putT kK ++ [0]) hr (by rw [kput]; decide)).mono (fun v w' h => by rw [kput0] at h; exact h)

theorem k_less2 (w : World) (A0 : Option Addr) (c0 : Nat) (hr0 : Rd encEn w A0 kK) (L : List En) (hL : L = lessT kK 2) : Fc Try.prog 26 #[.agg #[.slice A0 (kK : List En).length c0], .int .u64 (2)] w (fun v w' => Ext w w' ∧ NwLg w.heap.size encEn 51 L v w') := by
  subst hL
  exact less_any w A0 c0 kK hr0 (by decide) 2

theorem k_less6 (w : World) (A0 : Option Addr) (c0 : Nat) (hr0 : Rd encEn w A0 kK) (L : List En) (hL : L = lessT kK 6) : Fc Try.prog 26 #[.agg #[.slice A0 (kK : List En).length c0], .int .u64 (6)] w (fun v w' => Ext w w' ∧ NwLg w.heap.size encEn 51 L v w') := by
  subst hL
  exact less_any w A0 c0 kK hr0 (by decide) 6

theorem k_but (w : World) (A0 : Option Addr) (c0 : Nat) (hr0 : Rd encEn w A0 kK) (L : List En) (hL : L = butT kK 6 2) : Fc Try.prog 27 #[.agg #[.slice A0 (kK : List En).length c0], .int .u64 (6), .int .i64 (2)] w (fun v w' => Ext w w' ∧ NwLg w.heap.size encEn 51 L v w') := by
  subst hL
  exact but_any w A0 c0 kK hr0 (by decide) 6 2

theorem k_addX (w : World) (A0 : Option Addr) (c0 : Nat) (hr0 : Rd encEn w A0 kK) (L : List En) (hL : L = addT kK kX) : Fc Try.prog 35 #[.agg #[.slice A0 (kK : List En).length c0], .agg #[.int .i64 (0), .int .u64 (2), .int .u64 (4)]] w (fun v w' => Ext w w' ∧ NwLg w.heap.size encEn 51 L v w') := by
  subst hL
  exact add_any w A0 c0 kK hr0 (by decide) kX

theorem k_addY (w : World) (A0 : Option Addr) (c0 : Nat) (hr0 : Rd encEn w A0 kK) (L : List En) (hL : L = addT kK kY) : Fc Try.prog 35 #[.agg #[.slice A0 (kK : List En).length c0], .agg #[.int .i64 (16), .int .u64 (1), .int .u64 (0)]] w (fun v w' => Ext w w' ∧ NwLg w.heap.size encEn 51 L v w') := by
  subst hL
  exact add_any w A0 c0 kK hr0 (by decide) kY

theorem k_joinO (w : World) (A0 : Option Addr) (c0 : Nat) (hr0 : Rd encEn w A0 kK) (A1 : Option Addr) (c1 : Nat) (hr1 : Rd encEn w A1 kO) (L : List En) (hL : L = joinT kK kO) : Fc Try.prog 25 #[.agg #[.slice A0 (kK : List En).length c0], .agg #[.slice A1 (kO : List En).length c1]] w (fun v w' => Ext w w' ∧ NwLg w.heap.size encEn 51 L v w') := by
  subst hL
  exact join_any w A0 c0 kK hr0 (by decide) A1 c1 kO hr1 (by decide)

theorem k_joinB (w : World) (A0 : Option Addr) (c0 : Nat) (hr0 : Rd encEn w A0 kK) (A1 : Option Addr) (c1 : Nat) (hr1 : Rd encEn w A1 kB) (L : List En) (hL : L = joinT kK kB) : Fc Try.prog 25 #[.agg #[.slice A0 (kK : List En).length c0], .agg #[.slice A1 (kB : List En).length c1]] w (fun v w' => Ext w w' ∧ NwLg w.heap.size encEn 51 L v w') := by
  subst hL
  exact join_any w A0 c0 kK hr0 (by decide) A1 c1 kB hr1 (by decide)

theorem k_putK (w : World) (A0 : Option Addr) (c0 : Nat) (hr0 : Rd encEn w A0 kK) (L : List UInt8) (hL : L = putT kK) : Fc Try.prog 33 #[.agg #[.slice A0 (kK : List En).length c0]] w (fun v w' => Ext w w' ∧ NwSl w.heap.size encB 5 L v w') := by
  subst hL
  exact put_log w A0 c0 kK hr0 (by decide)

theorem k_putB (w : World) (A0 : Option Addr) (c0 : Nat) (hr0 : Rd encEn w A0 kB) (L : List UInt8) (hL : L = putT kB) : Fc Try.prog 33 #[.agg #[.slice A0 (kB : List En).length c0]] w (fun v w' => Ext w w' ∧ NwSl w.heap.size encB 5 L v w') := by
  subst hL
  exact put_log w A0 c0 kB hr0 (by decide)

theorem k_purgeB (w : World) (A0 : Option Addr) (c0 : Nat) (hr0 : Rd encEn w A0 kB) (L : List En) (hL : L = purgeT kB) : Fc Try.prog 22 #[.agg #[.slice A0 (kB : List En).length c0]] w (fun v w' => Ext w w' ∧ NwLg w.heap.size encEn 51 L v w') := by
  subst hL
  exact purge_any w A0 c0 kB hr0 (by decide)

theorem k_purge6 (w : World) (A : Option Addr) (c : Nat) (M : List En) (hM : M = lessT kK 6) (hr : Rd encEn w A M) (L : List En) (hL : L = purgeT (lessT kK 6)) : Fc Try.prog 22 #[.agg #[.slice A M.length c]] w (fun v w' => Ext w w' ∧ NwLg w.heap.size encEn 51 L v w') := by
  subst hM; subst hL
  exact purge_any w A c _ hr (by decide)

theorem k_goodB (w : World) (A : Option Addr) (c : Nat) (hr : Rd encEn w A kB) : Fc Try.prog 21 #[.agg #[.slice A kB.length c]] w (fun v w' => Ext w w' ∧ v = .bool false) := Fc.valE (good_any w A c kB hr (by decide)) (bool_eq (by decide))

theorem k_logs (w : World) (A : Option Addr) (c : Nat) (hr : Rd encEn w A kK) (A2 : Option Addr) (c2 : Nat) (hr2 : Rd encEn w A2 kK) : Fc Try.prog 23 #[.slice A kK.length c, .slice A2 kK.length c2] w (fun v w' => Ext w w' ∧ v = .bool true) := Fc.valE (logs_any w A c kK hr (by decide) A2 c2 kK hr2 (by decide)) (bool_eq (by decide))

set_option maxHeartbeats 4000000 in
theorem known18_law (w : World)  :
    Fc Try.prog 14 #[] w (fun v w' => Ext w w' ∧ v = .bool true) := by
  obtain ⟨L21, hL21⟩ : ∃ L, L = lessT kK 2 := ⟨_, rfl⟩
  obtain ⟨L23, hL23⟩ : ∃ L, L = lessT kK 6 := ⟨_, rfl⟩
  obtain ⟨L24, hL24⟩ : ∃ L, L = purgeT (lessT kK 6) := ⟨_, rfl⟩
  obtain ⟨L26, hL26⟩ : ∃ L, L = butT kK 6 2 := ⟨_, rfl⟩
  obtain ⟨L29, hL29⟩ : ∃ L, L = addT kK kX := ⟨_, rfl⟩
  obtain ⟨L32, hL32⟩ : ∃ L, L = addT kK kY := ⟨_, rfl⟩
  obtain ⟨L40, hL40⟩ : ∃ L, L = joinT kK kO := ⟨_, rfl⟩
  obtain ⟨Lp, hLp⟩ : ∃ L, L = putT kK := ⟨_, rfl⟩
  obtain ⟨Lq, hLq⟩ : ∃ L, L = putT kB := ⟨_, rfl⟩
  obtain ⟨Lg, hLg⟩ : ∃ L, L = purgeT kB := ⟨_, rfl⟩
  obtain ⟨Lj, hLj⟩ : ∃ L, L = joinT kK kB := ⟨_, rfl⟩
  refine Fc.enter (args := []) Try.func14 rfl Try.ntmps14 rfl ?_
  intro K_
  have hO : Only (fun _ => False) w w := Only.refl _ _
  refine W.seq ?_
  refine W.region ?_
  refine WL.yield rfl rfl rfl (Yield.assign rfl rfl) ?_
  refine WL.fin ?_
  refine Nm.code ?_
  refine W.seq ?_
  refine W.seq ?_
  refine W.region ?_
  refine WL.eff _ rfl rfl (Eff.fn rfl rfl Try.call20 (by rintro _ rfl; exact awake18 _)) ?_
  have hz_w := hO.size
  rintro _ w1 ⟨ho_w1, rfl⟩
  have hsz_w1 := ho_w1.size
  replace hO := hO.ext ho_w1
  refine WL.yield rfl rfl rfl (Yield.not rfl rfl) ?_
  refine WL.fin ?_
  refine Nm.code ?_
  refine W.cond_false rfl ?_
  refine W.skipN ?_
  refine Nm.code ?_
  refine W.seq ?_
  refine W.region ?_
  refine WL.yield rfl rfl rfl (Yield.build (cells := #[.int .i64 (0), .int .u64 (1), .int .u64 (6)]) rfl rfl (by kernel_rfl)) ?_
  refine WL.yield rfl rfl rfl (Yield.build (cells := #[.int .i64 (0), .int .u64 (2), .int .u64 (2)]) rfl rfl (by kernel_rfl)) ?_
  refine WL.yield rfl rfl rfl (Yield.build (cells := #[.int .i64 (1), .int .u64 (5), .int .u64 (0)]) rfl rfl (by kernel_rfl)) ?_
  refine WL.eff _ rfl rfl (Eff.buildSlice (cs := [.int .i64 (0), .int .u64 (1), .int .u64 (6), .int .i64 (0), .int .u64 (2), .int .u64 (2), .int .i64 (1), .int .u64 (5), .int .u64 (0)]) [.agg #[.int .i64 (0), .int .u64 (1), .int .u64 (6)], .agg #[.int .i64 (0), .int .u64 (2), .int .u64 (2)], .agg #[.int .i64 (1), .int .u64 (5), .int .u64 (0)]] rfl rfl Try.runUnderlying39 Try.sizeOf51 Try.zeroValue51 rfl rfl rfl (List.forall_mem_cons.2 ⟨rfl, (List.forall_mem_cons.2 ⟨rfl, (List.forall_mem_cons.2 ⟨rfl, (fun _ h => nomatch h)⟩)⟩)⟩) rfl) ?_
  rintro _ w2 ⟨_, b1, rfl, hs_b1, rfl, he_w2⟩
  have hb_b1 : w2.heap[b1]? = some (.cells #[.int .i64 (0), .int .u64 (1), .int .u64 (6), .int .i64 (0), .int .u64 (2), .int .u64 (2), .int .i64 (1), .int .u64 (5), .int .u64 (0)] 51 (0, 0)) := by rw [he_w2, hs_b1]; exact new_get _ _
  have ho_w2 : Ext w1 w2 := by rw [he_w2]; exact Ext.alloc _ _
  clear he_w2
  have hn_b1 : w.heap.size ≤ b1 := by rw [hs_b1]; exact hO.size
  have hsz_w2 := ho_w2.size
  replace hO := hO.ext ho_w2
  refine WL.yield rfl rfl rfl (Yield.build (cells := #[.slice (some ⟨b1, 0, none⟩) (3) (3)]) rfl rfl (by kernel_rfl)) ?_
  refine WL.eff _ rfl rfl (Eff.alloc rfl Try.zeroValue41) ?_
  rintro _ w3 ⟨_, b2, rfl, hs_b2, rfl, he_w3⟩
  have hb_b2 : w3.heap[b2]? = some (.cells #[.slice (none) (0) (0)] 41 (0, 0)) := by rw [he_w3, hs_b2]; exact new_get _ _
  have ho_w3 : Ext w2 w3 := by rw [he_w3]; exact Ext.alloc _ _
  clear he_w3
  have hn_b2 : w.heap.size ≤ b2 := by rw [hs_b2]; exact hO.size
  have hq_b1_b2 : b1 < b2 := by rw [hs_b2]; exact blk_lt hb_b1
  replace hb_b1 := ho_w3.get hb_b1
  have hsz_w3 := ho_w3.size
  replace hO := hO.ext ho_w3
  refine WL.eff _ rfl rfl (Eff.storeBlk (vs := [.slice (some ⟨b1, 0, none⟩) (3) (3)]) (cs := [.slice (none) (0) (0)]) (cs' := [.slice (some ⟨b1, 0, none⟩) (3) (3)]) rfl rfl rfl Try.sizeOf41 rfl (List.forall_mem_cons.2 ⟨rfl, (fun _ h => nomatch h)⟩) hb_b2 rfl rfl) ?_
  rintro _ w4 ⟨ho_w4, hb_new⟩
  replace hb_b1 := ho_w4.get hb_b1 (Nat.ne_of_lt hq_b1_b2)
  replace hb_b2 := hb_new
  have hsz_w4 := ho_w4.size
  replace hO := hO.trans ho_w4 (fun i hi1 hi2 => (Nat.not_lt.2 hn_b2 ((show i = b2 from hi2) ▸ hi1)).elim)
  refine WL.fin ?_
  refine Nm.code ?_
  refine W.seq ?_
  refine W.region ?_
  refine WL.yield rfl rfl rfl (Yield.loadAgg (cs := [.slice (some ⟨b1, 0, none⟩) (3) (3)]) rfl rfl Try.isAgg41 Try.sizeOf41 (blk_cells hb_b2 rfl)) ?_
  refine WL.eff _ rfl rfl (Eff.fn rfl rfl Try.call26 (by rintro _ rfl; exact k_less2 _ _ _ (blk_rd (E := encEn) (l := kK) hb_b1 rfl) L21 hL21)) ?_
  have hlt_b1_w4 : b1 < w4.heap.size := blk_lt hb_b1
  have hlt_b2_w4 : b2 < w4.heap.size := blk_lt hb_b2
  have hz_w4 := hO.size
  rintro _ w5 ⟨ho_w5, ⟨A_21, c_21, rfl, hc_21, hv_21⟩⟩
  replace hb_b1 := ho_w5.get hb_b1
  replace hb_b2 := ho_w5.get hb_b2
  have hsz_w5 := ho_w5.size
  replace hO := hO.ext ho_w5
  refine WL.eff _ rfl rfl (Eff.alloc rfl Try.zeroValue41) ?_
  rintro _ w6 ⟨_, b3, rfl, hs_b3, rfl, he_w6⟩
  have hb_b3 : w6.heap[b3]? = some (.cells #[.slice (none) (0) (0)] 41 (0, 0)) := by rw [he_w6, hs_b3]; exact new_get _ _
  have ho_w6 : Ext w5 w6 := by rw [he_w6]; exact Ext.alloc _ _
  clear he_w6
  have hn_b3 : w.heap.size ≤ b3 := by rw [hs_b3]; exact hO.size
  have hl_hv_21_b3 := Nw.below hv_21 (Nat.le_of_eq hs_b3.symm)
  have hq_b1_b3 : b1 < b3 := by rw [hs_b3]; exact blk_lt hb_b1
  have hq_b2_b3 : b2 < b3 := by rw [hs_b3]; exact blk_lt hb_b2
  replace hb_b1 := ho_w6.get hb_b1
  replace hb_b2 := ho_w6.get hb_b2
  have hsz_w6 := ho_w6.size
  replace hO := hO.ext ho_w6
  replace hv_21 := hv_21.ext ho_w6
  refine WL.eff _ rfl rfl (Eff.storeBlk (vs := [.slice (A_21) (L21.length) (c_21)]) (cs := [.slice (none) (0) (0)]) (cs' := [.slice (A_21) (L21.length) (c_21)]) rfl rfl rfl Try.sizeOf41 rfl (List.forall_mem_cons.2 ⟨rfl, (fun _ h => nomatch h)⟩) hb_b3 rfl rfl) ?_
  rintro _ w7 ⟨ho_w7, hb_new⟩
  replace hb_b1 := ho_w7.get hb_b1 (Nat.ne_of_lt hq_b1_b3)
  replace hb_b2 := ho_w7.get hb_b2 (Nat.ne_of_lt hq_b2_b3)
  replace hb_b3 := hb_new
  have hsz_w7 := ho_w7.size
  replace hO := hO.trans ho_w7 (fun i hi1 hi2 => (Nat.not_lt.2 hn_b3 ((show i = b3 from hi2) ▸ hi1)).elim)
  replace hv_21 := hv_21.only ho_w7 (fun q hq h => absurd (show q = b3 from h) (Nat.ne_of_lt (hl_hv_21_b3 q hq)))
  refine WL.fin ?_
  refine Nm.code ?_
  refine W.seq ?_
  refine W.region ?_
  refine WL.yield rfl rfl rfl (Yield.loadAgg (cs := [.slice (some ⟨b1, 0, none⟩) (3) (3)]) rfl rfl Try.isAgg41 Try.sizeOf41 (blk_cells hb_b2 rfl)) ?_
  have hlr_hv_21_hv_23 := fun q hq => Own.lt (hv_21).1 (b := q) hq
  refine WL.eff _ rfl rfl (Eff.fn rfl rfl Try.call26 (by rintro _ rfl; exact k_less6 _ _ _ (blk_rd (E := encEn) (l := kK) hb_b1 rfl) L23 hL23)) ?_
  have hlt_b1_w7 : b1 < w7.heap.size := blk_lt hb_b1
  have hlt_b2_w7 : b2 < w7.heap.size := blk_lt hb_b2
  have hlt_b3_w7 : b3 < w7.heap.size := blk_lt hb_b3
  have hz_w7 := hO.size
  rintro _ w8 ⟨ho_w8, ⟨A_23, c_23, rfl, hc_23, hv_23⟩⟩
  replace hb_b1 := ho_w8.get hb_b1
  replace hb_b2 := ho_w8.get hb_b2
  replace hb_b3 := ho_w8.get hb_b3
  have hsz_w8 := ho_w8.size
  replace hO := hO.ext ho_w8
  replace hv_21 := hv_21.ext ho_w8
  have hlr_hv_21_hv_24 := fun q hq => Own.lt (hv_21).1 (b := q) hq
  have hlr_hv_23_hv_24 := fun q hq => Own.lt (hv_23).1 (b := q) hq
  refine WL.eff _ rfl rfl (Eff.fn rfl rfl Try.call22 (by rintro _ rfl; exact k_purge6 _ _ _ L23 hL23 hv_23.rd L24 hL24)) ?_
  have hlt_b1_w8 : b1 < w8.heap.size := blk_lt hb_b1
  have hlt_b2_w8 : b2 < w8.heap.size := blk_lt hb_b2
  have hlt_b3_w8 : b3 < w8.heap.size := blk_lt hb_b3
  have hz_w8 := hO.size
  rintro _ w9 ⟨ho_w9, ⟨A_24, c_24, rfl, hc_24, hv_24⟩⟩
  replace hb_b1 := ho_w9.get hb_b1
  replace hb_b2 := ho_w9.get hb_b2
  replace hb_b3 := ho_w9.get hb_b3
  have hsz_w9 := ho_w9.size
  replace hO := hO.ext ho_w9
  replace hv_21 := hv_21.ext ho_w9
  replace hv_23 := hv_23.ext ho_w9
  refine WL.eff _ rfl rfl (Eff.alloc rfl Try.zeroValue41) ?_
  rintro _ w10 ⟨_, b4, rfl, hs_b4, rfl, he_w10⟩
  have hb_b4 : w10.heap[b4]? = some (.cells #[.slice (none) (0) (0)] 41 (0, 0)) := by rw [he_w10, hs_b4]; exact new_get _ _
  have ho_w10 : Ext w9 w10 := by rw [he_w10]; exact Ext.alloc _ _
  clear he_w10
  have hn_b4 : w.heap.size ≤ b4 := by rw [hs_b4]; exact hO.size
  have hl_hv_21_b4 := Nw.below hv_21 (Nat.le_of_eq hs_b4.symm)
  have hl_hv_23_b4 := Nw.below hv_23 (Nat.le_of_eq hs_b4.symm)
  have hl_hv_24_b4 := Nw.below hv_24 (Nat.le_of_eq hs_b4.symm)
  have hq_b1_b4 : b1 < b4 := by rw [hs_b4]; exact blk_lt hb_b1
  have hq_b2_b4 : b2 < b4 := by rw [hs_b4]; exact blk_lt hb_b2
  have hq_b3_b4 : b3 < b4 := by rw [hs_b4]; exact blk_lt hb_b3
  replace hb_b1 := ho_w10.get hb_b1
  replace hb_b2 := ho_w10.get hb_b2
  replace hb_b3 := ho_w10.get hb_b3
  have hsz_w10 := ho_w10.size
  replace hO := hO.ext ho_w10
  replace hv_21 := hv_21.ext ho_w10
  replace hv_23 := hv_23.ext ho_w10
  replace hv_24 := hv_24.ext ho_w10
  refine WL.eff _ rfl rfl (Eff.storeBlk (vs := [.slice (A_24) (L24.length) (c_24)]) (cs := [.slice (none) (0) (0)]) (cs' := [.slice (A_24) (L24.length) (c_24)]) rfl rfl rfl Try.sizeOf41 rfl (List.forall_mem_cons.2 ⟨rfl, (fun _ h => nomatch h)⟩) hb_b4 rfl rfl) ?_
  rintro _ w11 ⟨ho_w11, hb_new⟩
  replace hb_b1 := ho_w11.get hb_b1 (Nat.ne_of_lt hq_b1_b4)
  replace hb_b2 := ho_w11.get hb_b2 (Nat.ne_of_lt hq_b2_b4)
  replace hb_b3 := ho_w11.get hb_b3 (Nat.ne_of_lt hq_b3_b4)
  replace hb_b4 := hb_new
  have hsz_w11 := ho_w11.size
  replace hO := hO.trans ho_w11 (fun i hi1 hi2 => (Nat.not_lt.2 hn_b4 ((show i = b4 from hi2) ▸ hi1)).elim)
  replace hv_21 := hv_21.only ho_w11 (fun q hq h => absurd (show q = b4 from h) (Nat.ne_of_lt (hl_hv_21_b4 q hq)))
  replace hv_23 := hv_23.only ho_w11 (fun q hq h => absurd (show q = b4 from h) (Nat.ne_of_lt (hl_hv_23_b4 q hq)))
  replace hv_24 := hv_24.only ho_w11 (fun q hq h => absurd (show q = b4 from h) (Nat.ne_of_lt (hl_hv_24_b4 q hq)))
  refine WL.fin ?_
  refine Nm.code ?_
  refine W.seq ?_
  refine W.region ?_
  refine WL.yield rfl rfl rfl (Yield.loadAgg (cs := [.slice (some ⟨b1, 0, none⟩) (3) (3)]) rfl rfl Try.isAgg41 Try.sizeOf41 (blk_cells hb_b2 rfl)) ?_
  have hlr_hv_21_hv_26 := fun q hq => Own.lt (hv_21).1 (b := q) hq
  have hlr_hv_23_hv_26 := fun q hq => Own.lt (hv_23).1 (b := q) hq
  have hlr_hv_24_hv_26 := fun q hq => Own.lt (hv_24).1 (b := q) hq
  refine WL.eff _ rfl rfl (Eff.fn rfl rfl Try.call27 (by rintro _ rfl; exact k_but _ _ _ (blk_rd (E := encEn) (l := kK) hb_b1 rfl) L26 hL26)) ?_
  have hlt_b1_w11 : b1 < w11.heap.size := blk_lt hb_b1
  have hlt_b2_w11 : b2 < w11.heap.size := blk_lt hb_b2
  have hlt_b3_w11 : b3 < w11.heap.size := blk_lt hb_b3
  have hlt_b4_w11 : b4 < w11.heap.size := blk_lt hb_b4
  have hz_w11 := hO.size
  rintro _ w12 ⟨ho_w12, ⟨A_26, c_26, rfl, hc_26, hv_26⟩⟩
  replace hb_b1 := ho_w12.get hb_b1
  replace hb_b2 := ho_w12.get hb_b2
  replace hb_b3 := ho_w12.get hb_b3
  replace hb_b4 := ho_w12.get hb_b4
  have hsz_w12 := ho_w12.size
  replace hO := hO.ext ho_w12
  replace hv_21 := hv_21.ext ho_w12
  replace hv_23 := hv_23.ext ho_w12
  replace hv_24 := hv_24.ext ho_w12
  refine WL.eff _ rfl rfl (Eff.alloc rfl Try.zeroValue41) ?_
  rintro _ w13 ⟨_, b5, rfl, hs_b5, rfl, he_w13⟩
  have hb_b5 : w13.heap[b5]? = some (.cells #[.slice (none) (0) (0)] 41 (0, 0)) := by rw [he_w13, hs_b5]; exact new_get _ _
  have ho_w13 : Ext w12 w13 := by rw [he_w13]; exact Ext.alloc _ _
  clear he_w13
  have hn_b5 : w.heap.size ≤ b5 := by rw [hs_b5]; exact hO.size
  have hl_hv_21_b5 := Nw.below hv_21 (Nat.le_of_eq hs_b5.symm)
  have hl_hv_23_b5 := Nw.below hv_23 (Nat.le_of_eq hs_b5.symm)
  have hl_hv_24_b5 := Nw.below hv_24 (Nat.le_of_eq hs_b5.symm)
  have hl_hv_26_b5 := Nw.below hv_26 (Nat.le_of_eq hs_b5.symm)
  have hq_b1_b5 : b1 < b5 := by rw [hs_b5]; exact blk_lt hb_b1
  have hq_b2_b5 : b2 < b5 := by rw [hs_b5]; exact blk_lt hb_b2
  have hq_b3_b5 : b3 < b5 := by rw [hs_b5]; exact blk_lt hb_b3
  have hq_b4_b5 : b4 < b5 := by rw [hs_b5]; exact blk_lt hb_b4
  replace hb_b1 := ho_w13.get hb_b1
  replace hb_b2 := ho_w13.get hb_b2
  replace hb_b3 := ho_w13.get hb_b3
  replace hb_b4 := ho_w13.get hb_b4
  have hsz_w13 := ho_w13.size
  replace hO := hO.ext ho_w13
  replace hv_21 := hv_21.ext ho_w13
  replace hv_23 := hv_23.ext ho_w13
  replace hv_24 := hv_24.ext ho_w13
  replace hv_26 := hv_26.ext ho_w13
  refine WL.eff _ rfl rfl (Eff.storeBlk (vs := [.slice (A_26) (L26.length) (c_26)]) (cs := [.slice (none) (0) (0)]) (cs' := [.slice (A_26) (L26.length) (c_26)]) rfl rfl rfl Try.sizeOf41 rfl (List.forall_mem_cons.2 ⟨rfl, (fun _ h => nomatch h)⟩) hb_b5 rfl rfl) ?_
  rintro _ w14 ⟨ho_w14, hb_new⟩
  replace hb_b1 := ho_w14.get hb_b1 (Nat.ne_of_lt hq_b1_b5)
  replace hb_b2 := ho_w14.get hb_b2 (Nat.ne_of_lt hq_b2_b5)
  replace hb_b3 := ho_w14.get hb_b3 (Nat.ne_of_lt hq_b3_b5)
  replace hb_b4 := ho_w14.get hb_b4 (Nat.ne_of_lt hq_b4_b5)
  replace hb_b5 := hb_new
  have hsz_w14 := ho_w14.size
  replace hO := hO.trans ho_w14 (fun i hi1 hi2 => (Nat.not_lt.2 hn_b5 ((show i = b5 from hi2) ▸ hi1)).elim)
  replace hv_21 := hv_21.only ho_w14 (fun q hq h => absurd (show q = b5 from h) (Nat.ne_of_lt (hl_hv_21_b5 q hq)))
  replace hv_23 := hv_23.only ho_w14 (fun q hq h => absurd (show q = b5 from h) (Nat.ne_of_lt (hl_hv_23_b5 q hq)))
  replace hv_24 := hv_24.only ho_w14 (fun q hq h => absurd (show q = b5 from h) (Nat.ne_of_lt (hl_hv_24_b5 q hq)))
  replace hv_26 := hv_26.only ho_w14 (fun q hq h => absurd (show q = b5 from h) (Nat.ne_of_lt (hl_hv_26_b5 q hq)))
  refine WL.fin ?_
  refine Nm.code ?_
  refine W.seq ?_
  refine W.region ?_
  refine WL.yield rfl rfl rfl (Yield.loadAgg (cs := [.slice (some ⟨b1, 0, none⟩) (3) (3)]) rfl rfl Try.isAgg41 Try.sizeOf41 (blk_cells hb_b2 rfl)) ?_
  refine WL.yield rfl rfl rfl (Yield.build (cells := #[.int .i64 (0), .int .u64 (2), .int .u64 (4)]) rfl rfl (by kernel_rfl)) ?_
  have hlr_hv_21_hv_29 := fun q hq => Own.lt (hv_21).1 (b := q) hq
  have hlr_hv_23_hv_29 := fun q hq => Own.lt (hv_23).1 (b := q) hq
  have hlr_hv_24_hv_29 := fun q hq => Own.lt (hv_24).1 (b := q) hq
  have hlr_hv_26_hv_29 := fun q hq => Own.lt (hv_26).1 (b := q) hq
  refine WL.eff _ rfl rfl (Eff.fn rfl rfl Try.call35 (by rintro _ rfl; exact k_addX _ _ _ (blk_rd (E := encEn) (l := kK) hb_b1 rfl) L29 hL29)) ?_
  have hlt_b1_w14 : b1 < w14.heap.size := blk_lt hb_b1
  have hlt_b2_w14 : b2 < w14.heap.size := blk_lt hb_b2
  have hlt_b3_w14 : b3 < w14.heap.size := blk_lt hb_b3
  have hlt_b4_w14 : b4 < w14.heap.size := blk_lt hb_b4
  have hlt_b5_w14 : b5 < w14.heap.size := blk_lt hb_b5
  have hz_w14 := hO.size
  rintro _ w15 ⟨ho_w15, ⟨A_29, c_29, rfl, hc_29, hv_29⟩⟩
  replace hb_b1 := ho_w15.get hb_b1
  replace hb_b2 := ho_w15.get hb_b2
  replace hb_b3 := ho_w15.get hb_b3
  replace hb_b4 := ho_w15.get hb_b4
  replace hb_b5 := ho_w15.get hb_b5
  have hsz_w15 := ho_w15.size
  replace hO := hO.ext ho_w15
  replace hv_21 := hv_21.ext ho_w15
  replace hv_23 := hv_23.ext ho_w15
  replace hv_24 := hv_24.ext ho_w15
  replace hv_26 := hv_26.ext ho_w15
  obtain ⟨ad5, rfl⟩ := (hv_29.rd).addr (i := 1) (by rw [hL29]; decide)
  have hx5 : L29[1]? = some kX := by rw [hL29]; decide
  refine WL.eff _ rfl rfl (Eff.alloc rfl Try.zeroValue41) ?_
  rintro _ w16 ⟨_, b6, rfl, hs_b6, rfl, he_w16⟩
  have hb_b6 : w16.heap[b6]? = some (.cells #[.slice (none) (0) (0)] 41 (0, 0)) := by rw [he_w16, hs_b6]; exact new_get _ _
  have ho_w16 : Ext w15 w16 := by rw [he_w16]; exact Ext.alloc _ _
  clear he_w16
  have hn_b6 : w.heap.size ≤ b6 := by rw [hs_b6]; exact hO.size
  have hl_hv_21_b6 := Nw.below hv_21 (Nat.le_of_eq hs_b6.symm)
  have hl_hv_23_b6 := Nw.below hv_23 (Nat.le_of_eq hs_b6.symm)
  have hl_hv_24_b6 := Nw.below hv_24 (Nat.le_of_eq hs_b6.symm)
  have hl_hv_26_b6 := Nw.below hv_26 (Nat.le_of_eq hs_b6.symm)
  have hl_hv_29_b6 := Nw.below hv_29 (Nat.le_of_eq hs_b6.symm)
  have hq_b1_b6 : b1 < b6 := by rw [hs_b6]; exact blk_lt hb_b1
  have hq_b2_b6 : b2 < b6 := by rw [hs_b6]; exact blk_lt hb_b2
  have hq_b3_b6 : b3 < b6 := by rw [hs_b6]; exact blk_lt hb_b3
  have hq_b4_b6 : b4 < b6 := by rw [hs_b6]; exact blk_lt hb_b4
  have hq_b5_b6 : b5 < b6 := by rw [hs_b6]; exact blk_lt hb_b5
  replace hb_b1 := ho_w16.get hb_b1
  replace hb_b2 := ho_w16.get hb_b2
  replace hb_b3 := ho_w16.get hb_b3
  replace hb_b4 := ho_w16.get hb_b4
  replace hb_b5 := ho_w16.get hb_b5
  have hsz_w16 := ho_w16.size
  replace hO := hO.ext ho_w16
  replace hv_21 := hv_21.ext ho_w16
  replace hv_23 := hv_23.ext ho_w16
  replace hv_24 := hv_24.ext ho_w16
  replace hv_26 := hv_26.ext ho_w16
  replace hv_29 := hv_29.ext ho_w16
  refine WL.eff _ rfl rfl (Eff.storeBlk (vs := [.slice (some ad5) (L29.length) (c_29)]) (cs := [.slice (none) (0) (0)]) (cs' := [.slice (some ad5) (L29.length) (c_29)]) rfl rfl rfl Try.sizeOf41 rfl (List.forall_mem_cons.2 ⟨rfl, (fun _ h => nomatch h)⟩) hb_b6 rfl rfl) ?_
  rintro _ w17 ⟨ho_w17, hb_new⟩
  replace hb_b1 := ho_w17.get hb_b1 (Nat.ne_of_lt hq_b1_b6)
  replace hb_b2 := ho_w17.get hb_b2 (Nat.ne_of_lt hq_b2_b6)
  replace hb_b3 := ho_w17.get hb_b3 (Nat.ne_of_lt hq_b3_b6)
  replace hb_b4 := ho_w17.get hb_b4 (Nat.ne_of_lt hq_b4_b6)
  replace hb_b5 := ho_w17.get hb_b5 (Nat.ne_of_lt hq_b5_b6)
  replace hb_b6 := hb_new
  have hsz_w17 := ho_w17.size
  replace hO := hO.trans ho_w17 (fun i hi1 hi2 => (Nat.not_lt.2 hn_b6 ((show i = b6 from hi2) ▸ hi1)).elim)
  replace hv_21 := hv_21.only ho_w17 (fun q hq h => absurd (show q = b6 from h) (Nat.ne_of_lt (hl_hv_21_b6 q hq)))
  replace hv_23 := hv_23.only ho_w17 (fun q hq h => absurd (show q = b6 from h) (Nat.ne_of_lt (hl_hv_23_b6 q hq)))
  replace hv_24 := hv_24.only ho_w17 (fun q hq h => absurd (show q = b6 from h) (Nat.ne_of_lt (hl_hv_24_b6 q hq)))
  replace hv_26 := hv_26.only ho_w17 (fun q hq h => absurd (show q = b6 from h) (Nat.ne_of_lt (hl_hv_26_b6 q hq)))
  replace hv_29 := hv_29.only ho_w17 (fun q hq h => absurd (show q = b6 from h) (Nat.ne_of_lt (hl_hv_29_b6 q hq)))
  refine WL.fin ?_
  refine Nm.code ?_
  refine W.seq ?_
  refine W.region ?_
  refine WL.yield rfl rfl rfl (Yield.loadAgg (cs := [.slice (some ⟨b1, 0, none⟩) (3) (3)]) rfl rfl Try.isAgg41 Try.sizeOf41 (blk_cells hb_b2 rfl)) ?_
  refine WL.yield rfl rfl rfl (Yield.build (cells := #[.int .i64 (16), .int .u64 (1), .int .u64 (0)]) rfl rfl (by kernel_rfl)) ?_
  have hlr_hv_21_hv_32 := fun q hq => Own.lt (hv_21).1 (b := q) hq
  have hlr_hv_23_hv_32 := fun q hq => Own.lt (hv_23).1 (b := q) hq
  have hlr_hv_24_hv_32 := fun q hq => Own.lt (hv_24).1 (b := q) hq
  have hlr_hv_26_hv_32 := fun q hq => Own.lt (hv_26).1 (b := q) hq
  have hlr_hv_29_hv_32 := fun q hq => Own.lt (hv_29).1 (b := q) hq
  refine WL.eff _ rfl rfl (Eff.fn rfl rfl Try.call35 (by rintro _ rfl; exact k_addY _ _ _ (blk_rd (E := encEn) (l := kK) hb_b1 rfl) L32 hL32)) ?_
  have hlt_b1_w17 : b1 < w17.heap.size := blk_lt hb_b1
  have hlt_b2_w17 : b2 < w17.heap.size := blk_lt hb_b2
  have hlt_b3_w17 : b3 < w17.heap.size := blk_lt hb_b3
  have hlt_b4_w17 : b4 < w17.heap.size := blk_lt hb_b4
  have hlt_b5_w17 : b5 < w17.heap.size := blk_lt hb_b5
  have hlt_b6_w17 : b6 < w17.heap.size := blk_lt hb_b6
  have hz_w17 := hO.size
  rintro _ w18 ⟨ho_w18, ⟨A_32, c_32, rfl, hc_32, hv_32⟩⟩
  replace hb_b1 := ho_w18.get hb_b1
  replace hb_b2 := ho_w18.get hb_b2
  replace hb_b3 := ho_w18.get hb_b3
  replace hb_b4 := ho_w18.get hb_b4
  replace hb_b5 := ho_w18.get hb_b5
  replace hb_b6 := ho_w18.get hb_b6
  have hsz_w18 := ho_w18.size
  replace hO := hO.ext ho_w18
  replace hv_21 := hv_21.ext ho_w18
  replace hv_23 := hv_23.ext ho_w18
  replace hv_24 := hv_24.ext ho_w18
  replace hv_26 := hv_26.ext ho_w18
  replace hv_29 := hv_29.ext ho_w18
  refine WL.eff _ rfl rfl (Eff.alloc rfl Try.zeroValue41) ?_
  rintro _ w19 ⟨_, b7, rfl, hs_b7, rfl, he_w19⟩
  have hb_b7 : w19.heap[b7]? = some (.cells #[.slice (none) (0) (0)] 41 (0, 0)) := by rw [he_w19, hs_b7]; exact new_get _ _
  have ho_w19 : Ext w18 w19 := by rw [he_w19]; exact Ext.alloc _ _
  clear he_w19
  have hn_b7 : w.heap.size ≤ b7 := by rw [hs_b7]; exact hO.size
  have hl_hv_21_b7 := Nw.below hv_21 (Nat.le_of_eq hs_b7.symm)
  have hl_hv_23_b7 := Nw.below hv_23 (Nat.le_of_eq hs_b7.symm)
  have hl_hv_24_b7 := Nw.below hv_24 (Nat.le_of_eq hs_b7.symm)
  have hl_hv_26_b7 := Nw.below hv_26 (Nat.le_of_eq hs_b7.symm)
  have hl_hv_29_b7 := Nw.below hv_29 (Nat.le_of_eq hs_b7.symm)
  have hl_hv_32_b7 := Nw.below hv_32 (Nat.le_of_eq hs_b7.symm)
  have hq_b1_b7 : b1 < b7 := by rw [hs_b7]; exact blk_lt hb_b1
  have hq_b2_b7 : b2 < b7 := by rw [hs_b7]; exact blk_lt hb_b2
  have hq_b3_b7 : b3 < b7 := by rw [hs_b7]; exact blk_lt hb_b3
  have hq_b4_b7 : b4 < b7 := by rw [hs_b7]; exact blk_lt hb_b4
  have hq_b5_b7 : b5 < b7 := by rw [hs_b7]; exact blk_lt hb_b5
  have hq_b6_b7 : b6 < b7 := by rw [hs_b7]; exact blk_lt hb_b6
  replace hb_b1 := ho_w19.get hb_b1
  replace hb_b2 := ho_w19.get hb_b2
  replace hb_b3 := ho_w19.get hb_b3
  replace hb_b4 := ho_w19.get hb_b4
  replace hb_b5 := ho_w19.get hb_b5
  replace hb_b6 := ho_w19.get hb_b6
  have hsz_w19 := ho_w19.size
  replace hO := hO.ext ho_w19
  replace hv_21 := hv_21.ext ho_w19
  replace hv_23 := hv_23.ext ho_w19
  replace hv_24 := hv_24.ext ho_w19
  replace hv_26 := hv_26.ext ho_w19
  replace hv_29 := hv_29.ext ho_w19
  replace hv_32 := hv_32.ext ho_w19
  refine WL.eff _ rfl rfl (Eff.storeBlk (vs := [.slice (A_32) (L32.length) (c_32)]) (cs := [.slice (none) (0) (0)]) (cs' := [.slice (A_32) (L32.length) (c_32)]) rfl rfl rfl Try.sizeOf41 rfl (List.forall_mem_cons.2 ⟨rfl, (fun _ h => nomatch h)⟩) hb_b7 rfl rfl) ?_
  rintro _ w20 ⟨ho_w20, hb_new⟩
  replace hb_b1 := ho_w20.get hb_b1 (Nat.ne_of_lt hq_b1_b7)
  replace hb_b2 := ho_w20.get hb_b2 (Nat.ne_of_lt hq_b2_b7)
  replace hb_b3 := ho_w20.get hb_b3 (Nat.ne_of_lt hq_b3_b7)
  replace hb_b4 := ho_w20.get hb_b4 (Nat.ne_of_lt hq_b4_b7)
  replace hb_b5 := ho_w20.get hb_b5 (Nat.ne_of_lt hq_b5_b7)
  replace hb_b6 := ho_w20.get hb_b6 (Nat.ne_of_lt hq_b6_b7)
  replace hb_b7 := hb_new
  have hsz_w20 := ho_w20.size
  replace hO := hO.trans ho_w20 (fun i hi1 hi2 => (Nat.not_lt.2 hn_b7 ((show i = b7 from hi2) ▸ hi1)).elim)
  replace hv_21 := hv_21.only ho_w20 (fun q hq h => absurd (show q = b7 from h) (Nat.ne_of_lt (hl_hv_21_b7 q hq)))
  replace hv_23 := hv_23.only ho_w20 (fun q hq h => absurd (show q = b7 from h) (Nat.ne_of_lt (hl_hv_23_b7 q hq)))
  replace hv_24 := hv_24.only ho_w20 (fun q hq h => absurd (show q = b7 from h) (Nat.ne_of_lt (hl_hv_24_b7 q hq)))
  replace hv_26 := hv_26.only ho_w20 (fun q hq h => absurd (show q = b7 from h) (Nat.ne_of_lt (hl_hv_26_b7 q hq)))
  replace hv_29 := hv_29.only ho_w20 (fun q hq h => absurd (show q = b7 from h) (Nat.ne_of_lt (hl_hv_29_b7 q hq)))
  replace hv_32 := hv_32.only ho_w20 (fun q hq h => absurd (show q = b7 from h) (Nat.ne_of_lt (hl_hv_32_b7 q hq)))
  refine WL.fin ?_
  refine Nm.code ?_
  refine W.seq ?_
  refine W.region ?_
  refine WL.yield rfl rfl rfl (Yield.loadAgg (cs := [.slice (some ⟨b1, 0, none⟩) (3) (3)]) rfl rfl Try.isAgg41 Try.sizeOf41 (blk_cells hb_b2 rfl)) ?_
  refine WL.yield rfl rfl rfl (Yield.build (cells := #[.int .i64 (0), .int .u64 (1), .int .u64 (4)]) rfl rfl (by kernel_rfl)) ?_
  refine WL.yield rfl rfl rfl (Yield.build (cells := #[.int .i64 (0), .int .u64 (3), .int .u64 (1)]) rfl rfl (by kernel_rfl)) ?_
  refine WL.yield rfl rfl rfl (Yield.build (cells := #[.int .i64 (1), .int .u64 (4), .int .u64 (1)]) rfl rfl (by kernel_rfl)) ?_
  refine WL.yield rfl rfl rfl (Yield.build (cells := #[.int .i64 (2), .int .u64 (1), .int .u64 (1)]) rfl rfl (by kernel_rfl)) ?_
  refine WL.eff _ rfl rfl (Eff.buildSlice (cs := [.int .i64 (0), .int .u64 (1), .int .u64 (4), .int .i64 (0), .int .u64 (3), .int .u64 (1), .int .i64 (1), .int .u64 (4), .int .u64 (1), .int .i64 (2), .int .u64 (1), .int .u64 (1)]) [.agg #[.int .i64 (0), .int .u64 (1), .int .u64 (4)], .agg #[.int .i64 (0), .int .u64 (3), .int .u64 (1)], .agg #[.int .i64 (1), .int .u64 (4), .int .u64 (1)], .agg #[.int .i64 (2), .int .u64 (1), .int .u64 (1)]] rfl rfl Try.runUnderlying39 Try.sizeOf51 Try.zeroValue51 rfl rfl rfl (List.forall_mem_cons.2 ⟨rfl, (List.forall_mem_cons.2 ⟨rfl, (List.forall_mem_cons.2 ⟨rfl, (List.forall_mem_cons.2 ⟨rfl, (fun _ h => nomatch h)⟩)⟩)⟩)⟩) rfl) ?_
  rintro _ w21 ⟨_, b8, rfl, hs_b8, rfl, he_w21⟩
  have hb_b8 : w21.heap[b8]? = some (.cells #[.int .i64 (0), .int .u64 (1), .int .u64 (4), .int .i64 (0), .int .u64 (3), .int .u64 (1), .int .i64 (1), .int .u64 (4), .int .u64 (1), .int .i64 (2), .int .u64 (1), .int .u64 (1)] 51 (0, 0)) := by rw [he_w21, hs_b8]; exact new_get _ _
  have ho_w21 : Ext w20 w21 := by rw [he_w21]; exact Ext.alloc _ _
  clear he_w21
  have hn_b8 : w.heap.size ≤ b8 := by rw [hs_b8]; exact hO.size
  have hl_hv_21_b8 := Nw.below hv_21 (Nat.le_of_eq hs_b8.symm)
  have hl_hv_23_b8 := Nw.below hv_23 (Nat.le_of_eq hs_b8.symm)
  have hl_hv_24_b8 := Nw.below hv_24 (Nat.le_of_eq hs_b8.symm)
  have hl_hv_26_b8 := Nw.below hv_26 (Nat.le_of_eq hs_b8.symm)
  have hl_hv_29_b8 := Nw.below hv_29 (Nat.le_of_eq hs_b8.symm)
  have hl_hv_32_b8 := Nw.below hv_32 (Nat.le_of_eq hs_b8.symm)
  have hq_b1_b8 : b1 < b8 := by rw [hs_b8]; exact blk_lt hb_b1
  have hq_b2_b8 : b2 < b8 := by rw [hs_b8]; exact blk_lt hb_b2
  have hq_b3_b8 : b3 < b8 := by rw [hs_b8]; exact blk_lt hb_b3
  have hq_b4_b8 : b4 < b8 := by rw [hs_b8]; exact blk_lt hb_b4
  have hq_b5_b8 : b5 < b8 := by rw [hs_b8]; exact blk_lt hb_b5
  have hq_b6_b8 : b6 < b8 := by rw [hs_b8]; exact blk_lt hb_b6
  have hq_b7_b8 : b7 < b8 := by rw [hs_b8]; exact blk_lt hb_b7
  replace hb_b1 := ho_w21.get hb_b1
  replace hb_b2 := ho_w21.get hb_b2
  replace hb_b3 := ho_w21.get hb_b3
  replace hb_b4 := ho_w21.get hb_b4
  replace hb_b5 := ho_w21.get hb_b5
  replace hb_b6 := ho_w21.get hb_b6
  replace hb_b7 := ho_w21.get hb_b7
  have hsz_w21 := ho_w21.size
  replace hO := hO.ext ho_w21
  replace hv_21 := hv_21.ext ho_w21
  replace hv_23 := hv_23.ext ho_w21
  replace hv_24 := hv_24.ext ho_w21
  replace hv_26 := hv_26.ext ho_w21
  replace hv_29 := hv_29.ext ho_w21
  replace hv_32 := hv_32.ext ho_w21
  refine WL.yield rfl rfl rfl (Yield.build (cells := #[.slice (some ⟨b8, 0, none⟩) (4) (4)]) rfl rfl (by kernel_rfl)) ?_
  have hlr_hv_21_hv_40 := fun q hq => Own.lt (hv_21).1 (b := q) hq
  have hlr_hv_23_hv_40 := fun q hq => Own.lt (hv_23).1 (b := q) hq
  have hlr_hv_24_hv_40 := fun q hq => Own.lt (hv_24).1 (b := q) hq
  have hlr_hv_26_hv_40 := fun q hq => Own.lt (hv_26).1 (b := q) hq
  have hlr_hv_29_hv_40 := fun q hq => Own.lt (hv_29).1 (b := q) hq
  have hlr_hv_32_hv_40 := fun q hq => Own.lt (hv_32).1 (b := q) hq
  refine WL.eff _ rfl rfl (Eff.fn rfl rfl Try.call25 (by rintro _ rfl; exact k_joinO _ _ _ (blk_rd (E := encEn) (l := kK) hb_b1 rfl) _ _ (blk_rd (E := encEn) (l := kO) hb_b8 rfl) L40 hL40)) ?_
  have hlt_b1_w21 : b1 < w21.heap.size := blk_lt hb_b1
  have hlt_b2_w21 : b2 < w21.heap.size := blk_lt hb_b2
  have hlt_b3_w21 : b3 < w21.heap.size := blk_lt hb_b3
  have hlt_b4_w21 : b4 < w21.heap.size := blk_lt hb_b4
  have hlt_b5_w21 : b5 < w21.heap.size := blk_lt hb_b5
  have hlt_b6_w21 : b6 < w21.heap.size := blk_lt hb_b6
  have hlt_b7_w21 : b7 < w21.heap.size := blk_lt hb_b7
  have hlt_b8_w21 : b8 < w21.heap.size := blk_lt hb_b8
  have hz_w21 := hO.size
  rintro _ w22 ⟨ho_w22, ⟨A_40, c_40, rfl, hc_40, hv_40⟩⟩
  replace hb_b1 := ho_w22.get hb_b1
  replace hb_b2 := ho_w22.get hb_b2
  replace hb_b3 := ho_w22.get hb_b3
  replace hb_b4 := ho_w22.get hb_b4
  replace hb_b5 := ho_w22.get hb_b5
  replace hb_b6 := ho_w22.get hb_b6
  replace hb_b7 := ho_w22.get hb_b7
  replace hb_b8 := ho_w22.get hb_b8
  have hsz_w22 := ho_w22.size
  replace hO := hO.ext ho_w22
  replace hv_21 := hv_21.ext ho_w22
  replace hv_23 := hv_23.ext ho_w22
  replace hv_24 := hv_24.ext ho_w22
  replace hv_26 := hv_26.ext ho_w22
  replace hv_29 := hv_29.ext ho_w22
  replace hv_32 := hv_32.ext ho_w22
  refine WL.eff _ rfl rfl (Eff.alloc rfl Try.zeroValue41) ?_
  rintro _ w23 ⟨_, b9, rfl, hs_b9, rfl, he_w23⟩
  have hb_b9 : w23.heap[b9]? = some (.cells #[.slice (none) (0) (0)] 41 (0, 0)) := by rw [he_w23, hs_b9]; exact new_get _ _
  have ho_w23 : Ext w22 w23 := by rw [he_w23]; exact Ext.alloc _ _
  clear he_w23
  have hn_b9 : w.heap.size ≤ b9 := by rw [hs_b9]; exact hO.size
  have hl_hv_21_b9 := Nw.below hv_21 (Nat.le_of_eq hs_b9.symm)
  have hl_hv_23_b9 := Nw.below hv_23 (Nat.le_of_eq hs_b9.symm)
  have hl_hv_24_b9 := Nw.below hv_24 (Nat.le_of_eq hs_b9.symm)
  have hl_hv_26_b9 := Nw.below hv_26 (Nat.le_of_eq hs_b9.symm)
  have hl_hv_29_b9 := Nw.below hv_29 (Nat.le_of_eq hs_b9.symm)
  have hl_hv_32_b9 := Nw.below hv_32 (Nat.le_of_eq hs_b9.symm)
  have hl_hv_40_b9 := Nw.below hv_40 (Nat.le_of_eq hs_b9.symm)
  have hq_b1_b9 : b1 < b9 := by rw [hs_b9]; exact blk_lt hb_b1
  have hq_b2_b9 : b2 < b9 := by rw [hs_b9]; exact blk_lt hb_b2
  have hq_b3_b9 : b3 < b9 := by rw [hs_b9]; exact blk_lt hb_b3
  have hq_b4_b9 : b4 < b9 := by rw [hs_b9]; exact blk_lt hb_b4
  have hq_b5_b9 : b5 < b9 := by rw [hs_b9]; exact blk_lt hb_b5
  have hq_b6_b9 : b6 < b9 := by rw [hs_b9]; exact blk_lt hb_b6
  have hq_b7_b9 : b7 < b9 := by rw [hs_b9]; exact blk_lt hb_b7
  have hq_b8_b9 : b8 < b9 := by rw [hs_b9]; exact blk_lt hb_b8
  replace hb_b1 := ho_w23.get hb_b1
  replace hb_b2 := ho_w23.get hb_b2
  replace hb_b3 := ho_w23.get hb_b3
  replace hb_b4 := ho_w23.get hb_b4
  replace hb_b5 := ho_w23.get hb_b5
  replace hb_b6 := ho_w23.get hb_b6
  replace hb_b7 := ho_w23.get hb_b7
  replace hb_b8 := ho_w23.get hb_b8
  have hsz_w23 := ho_w23.size
  replace hO := hO.ext ho_w23
  replace hv_21 := hv_21.ext ho_w23
  replace hv_23 := hv_23.ext ho_w23
  replace hv_24 := hv_24.ext ho_w23
  replace hv_26 := hv_26.ext ho_w23
  replace hv_29 := hv_29.ext ho_w23
  replace hv_32 := hv_32.ext ho_w23
  replace hv_40 := hv_40.ext ho_w23
  refine WL.eff _ rfl rfl (Eff.storeBlk (vs := [.slice (A_40) (L40.length) (c_40)]) (cs := [.slice (none) (0) (0)]) (cs' := [.slice (A_40) (L40.length) (c_40)]) rfl rfl rfl Try.sizeOf41 rfl (List.forall_mem_cons.2 ⟨rfl, (fun _ h => nomatch h)⟩) hb_b9 rfl rfl) ?_
  rintro _ w24 ⟨ho_w24, hb_new⟩
  replace hb_b1 := ho_w24.get hb_b1 (Nat.ne_of_lt hq_b1_b9)
  replace hb_b2 := ho_w24.get hb_b2 (Nat.ne_of_lt hq_b2_b9)
  replace hb_b3 := ho_w24.get hb_b3 (Nat.ne_of_lt hq_b3_b9)
  replace hb_b4 := ho_w24.get hb_b4 (Nat.ne_of_lt hq_b4_b9)
  replace hb_b5 := ho_w24.get hb_b5 (Nat.ne_of_lt hq_b5_b9)
  replace hb_b6 := ho_w24.get hb_b6 (Nat.ne_of_lt hq_b6_b9)
  replace hb_b7 := ho_w24.get hb_b7 (Nat.ne_of_lt hq_b7_b9)
  replace hb_b8 := ho_w24.get hb_b8 (Nat.ne_of_lt hq_b8_b9)
  replace hb_b9 := hb_new
  have hsz_w24 := ho_w24.size
  replace hO := hO.trans ho_w24 (fun i hi1 hi2 => (Nat.not_lt.2 hn_b9 ((show i = b9 from hi2) ▸ hi1)).elim)
  replace hv_21 := hv_21.only ho_w24 (fun q hq h => absurd (show q = b9 from h) (Nat.ne_of_lt (hl_hv_21_b9 q hq)))
  replace hv_23 := hv_23.only ho_w24 (fun q hq h => absurd (show q = b9 from h) (Nat.ne_of_lt (hl_hv_23_b9 q hq)))
  replace hv_24 := hv_24.only ho_w24 (fun q hq h => absurd (show q = b9 from h) (Nat.ne_of_lt (hl_hv_24_b9 q hq)))
  replace hv_26 := hv_26.only ho_w24 (fun q hq h => absurd (show q = b9 from h) (Nat.ne_of_lt (hl_hv_26_b9 q hq)))
  replace hv_29 := hv_29.only ho_w24 (fun q hq h => absurd (show q = b9 from h) (Nat.ne_of_lt (hl_hv_29_b9 q hq)))
  replace hv_32 := hv_32.only ho_w24 (fun q hq h => absurd (show q = b9 from h) (Nat.ne_of_lt (hl_hv_32_b9 q hq)))
  replace hv_40 := hv_40.only ho_w24 (fun q hq h => absurd (show q = b9 from h) (Nat.ne_of_lt (hl_hv_40_b9 q hq)))
  refine WL.fin ?_
  refine Nm.code ?_
  refine W.seq ?_
  refine W.region ?_
  refine WL.yield rfl rfl rfl (Yield.build (cells := #[.int .i64 (1), .int .u64 (1), .int .u64 (0)]) rfl rfl (by kernel_rfl)) ?_
  refine WL.yield rfl rfl rfl (Yield.build (cells := #[.int .i64 (0), .int .u64 (1), .int .u64 (0)]) rfl rfl (by kernel_rfl)) ?_
  refine WL.eff _ rfl rfl (Eff.buildSlice (cs := [.int .i64 (1), .int .u64 (1), .int .u64 (0), .int .i64 (0), .int .u64 (1), .int .u64 (0)]) [.agg #[.int .i64 (1), .int .u64 (1), .int .u64 (0)], .agg #[.int .i64 (0), .int .u64 (1), .int .u64 (0)]] rfl rfl Try.runUnderlying39 Try.sizeOf51 Try.zeroValue51 rfl rfl rfl (List.forall_mem_cons.2 ⟨rfl, (List.forall_mem_cons.2 ⟨rfl, (fun _ h => nomatch h)⟩)⟩) rfl) ?_
  rintro _ w25 ⟨_, b10, rfl, hs_b10, rfl, he_w25⟩
  have hb_b10 : w25.heap[b10]? = some (.cells #[.int .i64 (1), .int .u64 (1), .int .u64 (0), .int .i64 (0), .int .u64 (1), .int .u64 (0)] 51 (0, 0)) := by rw [he_w25, hs_b10]; exact new_get _ _
  have ho_w25 : Ext w24 w25 := by rw [he_w25]; exact Ext.alloc _ _
  clear he_w25
  have hn_b10 : w.heap.size ≤ b10 := by rw [hs_b10]; exact hO.size
  have hl_hv_21_b10 := Nw.below hv_21 (Nat.le_of_eq hs_b10.symm)
  have hl_hv_23_b10 := Nw.below hv_23 (Nat.le_of_eq hs_b10.symm)
  have hl_hv_24_b10 := Nw.below hv_24 (Nat.le_of_eq hs_b10.symm)
  have hl_hv_26_b10 := Nw.below hv_26 (Nat.le_of_eq hs_b10.symm)
  have hl_hv_29_b10 := Nw.below hv_29 (Nat.le_of_eq hs_b10.symm)
  have hl_hv_32_b10 := Nw.below hv_32 (Nat.le_of_eq hs_b10.symm)
  have hl_hv_40_b10 := Nw.below hv_40 (Nat.le_of_eq hs_b10.symm)
  have hq_b1_b10 : b1 < b10 := by rw [hs_b10]; exact blk_lt hb_b1
  have hq_b2_b10 : b2 < b10 := by rw [hs_b10]; exact blk_lt hb_b2
  have hq_b3_b10 : b3 < b10 := by rw [hs_b10]; exact blk_lt hb_b3
  have hq_b4_b10 : b4 < b10 := by rw [hs_b10]; exact blk_lt hb_b4
  have hq_b5_b10 : b5 < b10 := by rw [hs_b10]; exact blk_lt hb_b5
  have hq_b6_b10 : b6 < b10 := by rw [hs_b10]; exact blk_lt hb_b6
  have hq_b7_b10 : b7 < b10 := by rw [hs_b10]; exact blk_lt hb_b7
  have hq_b8_b10 : b8 < b10 := by rw [hs_b10]; exact blk_lt hb_b8
  have hq_b9_b10 : b9 < b10 := by rw [hs_b10]; exact blk_lt hb_b9
  replace hb_b1 := ho_w25.get hb_b1
  replace hb_b2 := ho_w25.get hb_b2
  replace hb_b3 := ho_w25.get hb_b3
  replace hb_b4 := ho_w25.get hb_b4
  replace hb_b5 := ho_w25.get hb_b5
  replace hb_b6 := ho_w25.get hb_b6
  replace hb_b7 := ho_w25.get hb_b7
  replace hb_b8 := ho_w25.get hb_b8
  replace hb_b9 := ho_w25.get hb_b9
  have hsz_w25 := ho_w25.size
  replace hO := hO.ext ho_w25
  replace hv_21 := hv_21.ext ho_w25
  replace hv_23 := hv_23.ext ho_w25
  replace hv_24 := hv_24.ext ho_w25
  replace hv_26 := hv_26.ext ho_w25
  replace hv_29 := hv_29.ext ho_w25
  replace hv_32 := hv_32.ext ho_w25
  replace hv_40 := hv_40.ext ho_w25
  refine WL.yield rfl rfl rfl (Yield.build (cells := #[.slice (some ⟨b10, 0, none⟩) (2) (2)]) rfl rfl (by kernel_rfl)) ?_
  refine WL.eff _ rfl rfl (Eff.alloc rfl Try.zeroValue41) ?_
  rintro _ w26 ⟨_, b11, rfl, hs_b11, rfl, he_w26⟩
  have hb_b11 : w26.heap[b11]? = some (.cells #[.slice (none) (0) (0)] 41 (0, 0)) := by rw [he_w26, hs_b11]; exact new_get _ _
  have ho_w26 : Ext w25 w26 := by rw [he_w26]; exact Ext.alloc _ _
  clear he_w26
  have hn_b11 : w.heap.size ≤ b11 := by rw [hs_b11]; exact hO.size
  have hl_hv_21_b11 := Nw.below hv_21 (Nat.le_of_eq hs_b11.symm)
  have hl_hv_23_b11 := Nw.below hv_23 (Nat.le_of_eq hs_b11.symm)
  have hl_hv_24_b11 := Nw.below hv_24 (Nat.le_of_eq hs_b11.symm)
  have hl_hv_26_b11 := Nw.below hv_26 (Nat.le_of_eq hs_b11.symm)
  have hl_hv_29_b11 := Nw.below hv_29 (Nat.le_of_eq hs_b11.symm)
  have hl_hv_32_b11 := Nw.below hv_32 (Nat.le_of_eq hs_b11.symm)
  have hl_hv_40_b11 := Nw.below hv_40 (Nat.le_of_eq hs_b11.symm)
  have hq_b1_b11 : b1 < b11 := by rw [hs_b11]; exact blk_lt hb_b1
  have hq_b2_b11 : b2 < b11 := by rw [hs_b11]; exact blk_lt hb_b2
  have hq_b3_b11 : b3 < b11 := by rw [hs_b11]; exact blk_lt hb_b3
  have hq_b4_b11 : b4 < b11 := by rw [hs_b11]; exact blk_lt hb_b4
  have hq_b5_b11 : b5 < b11 := by rw [hs_b11]; exact blk_lt hb_b5
  have hq_b6_b11 : b6 < b11 := by rw [hs_b11]; exact blk_lt hb_b6
  have hq_b7_b11 : b7 < b11 := by rw [hs_b11]; exact blk_lt hb_b7
  have hq_b8_b11 : b8 < b11 := by rw [hs_b11]; exact blk_lt hb_b8
  have hq_b9_b11 : b9 < b11 := by rw [hs_b11]; exact blk_lt hb_b9
  have hq_b10_b11 : b10 < b11 := by rw [hs_b11]; exact blk_lt hb_b10
  replace hb_b1 := ho_w26.get hb_b1
  replace hb_b2 := ho_w26.get hb_b2
  replace hb_b3 := ho_w26.get hb_b3
  replace hb_b4 := ho_w26.get hb_b4
  replace hb_b5 := ho_w26.get hb_b5
  replace hb_b6 := ho_w26.get hb_b6
  replace hb_b7 := ho_w26.get hb_b7
  replace hb_b8 := ho_w26.get hb_b8
  replace hb_b9 := ho_w26.get hb_b9
  replace hb_b10 := ho_w26.get hb_b10
  have hsz_w26 := ho_w26.size
  replace hO := hO.ext ho_w26
  replace hv_21 := hv_21.ext ho_w26
  replace hv_23 := hv_23.ext ho_w26
  replace hv_24 := hv_24.ext ho_w26
  replace hv_26 := hv_26.ext ho_w26
  replace hv_29 := hv_29.ext ho_w26
  replace hv_32 := hv_32.ext ho_w26
  replace hv_40 := hv_40.ext ho_w26
  refine WL.eff _ rfl rfl (Eff.storeBlk (vs := [.slice (some ⟨b10, 0, none⟩) (2) (2)]) (cs := [.slice (none) (0) (0)]) (cs' := [.slice (some ⟨b10, 0, none⟩) (2) (2)]) rfl rfl rfl Try.sizeOf41 rfl (List.forall_mem_cons.2 ⟨rfl, (fun _ h => nomatch h)⟩) hb_b11 rfl rfl) ?_
  rintro _ w27 ⟨ho_w27, hb_new⟩
  replace hb_b1 := ho_w27.get hb_b1 (Nat.ne_of_lt hq_b1_b11)
  replace hb_b2 := ho_w27.get hb_b2 (Nat.ne_of_lt hq_b2_b11)
  replace hb_b3 := ho_w27.get hb_b3 (Nat.ne_of_lt hq_b3_b11)
  replace hb_b4 := ho_w27.get hb_b4 (Nat.ne_of_lt hq_b4_b11)
  replace hb_b5 := ho_w27.get hb_b5 (Nat.ne_of_lt hq_b5_b11)
  replace hb_b6 := ho_w27.get hb_b6 (Nat.ne_of_lt hq_b6_b11)
  replace hb_b7 := ho_w27.get hb_b7 (Nat.ne_of_lt hq_b7_b11)
  replace hb_b8 := ho_w27.get hb_b8 (Nat.ne_of_lt hq_b8_b11)
  replace hb_b9 := ho_w27.get hb_b9 (Nat.ne_of_lt hq_b9_b11)
  replace hb_b10 := ho_w27.get hb_b10 (Nat.ne_of_lt hq_b10_b11)
  replace hb_b11 := hb_new
  have hsz_w27 := ho_w27.size
  replace hO := hO.trans ho_w27 (fun i hi1 hi2 => (Nat.not_lt.2 hn_b11 ((show i = b11 from hi2) ▸ hi1)).elim)
  replace hv_21 := hv_21.only ho_w27 (fun q hq h => absurd (show q = b11 from h) (Nat.ne_of_lt (hl_hv_21_b11 q hq)))
  replace hv_23 := hv_23.only ho_w27 (fun q hq h => absurd (show q = b11 from h) (Nat.ne_of_lt (hl_hv_23_b11 q hq)))
  replace hv_24 := hv_24.only ho_w27 (fun q hq h => absurd (show q = b11 from h) (Nat.ne_of_lt (hl_hv_24_b11 q hq)))
  replace hv_26 := hv_26.only ho_w27 (fun q hq h => absurd (show q = b11 from h) (Nat.ne_of_lt (hl_hv_26_b11 q hq)))
  replace hv_29 := hv_29.only ho_w27 (fun q hq h => absurd (show q = b11 from h) (Nat.ne_of_lt (hl_hv_29_b11 q hq)))
  replace hv_32 := hv_32.only ho_w27 (fun q hq h => absurd (show q = b11 from h) (Nat.ne_of_lt (hl_hv_32_b11 q hq)))
  replace hv_40 := hv_40.only ho_w27 (fun q hq h => absurd (show q = b11 from h) (Nat.ne_of_lt (hl_hv_40_b11 q hq)))
  refine WL.fin ?_
  refine Nm.code ?_
  refine W.seq ?_
  refine W.region ?_
  refine WL.yield rfl rfl rfl (Yield.loadAgg (cs := [.slice (some ⟨b1, 0, none⟩) (3) (3)]) rfl rfl Try.isAgg41 Try.sizeOf41 (blk_cells hb_b2 rfl)) ?_
  have hlr_hv_21_hv_47 := fun q hq => Own.lt (hv_21).1 (b := q) hq
  have hlr_hv_23_hv_47 := fun q hq => Own.lt (hv_23).1 (b := q) hq
  have hlr_hv_24_hv_47 := fun q hq => Own.lt (hv_24).1 (b := q) hq
  have hlr_hv_26_hv_47 := fun q hq => Own.lt (hv_26).1 (b := q) hq
  have hlr_hv_29_hv_47 := fun q hq => Own.lt (hv_29).1 (b := q) hq
  have hlr_hv_32_hv_47 := fun q hq => Own.lt (hv_32).1 (b := q) hq
  have hlr_hv_40_hv_47 := fun q hq => Own.lt (hv_40).1 (b := q) hq
  refine WL.eff _ rfl rfl (Eff.fn rfl rfl Try.call33 (by rintro _ rfl; exact k_putK _ _ _ (blk_rd (E := encEn) (l := kK) hb_b1 rfl) Lp hLp)) ?_
  have hlt_b1_w27 : b1 < w27.heap.size := blk_lt hb_b1
  have hlt_b2_w27 : b2 < w27.heap.size := blk_lt hb_b2
  have hlt_b3_w27 : b3 < w27.heap.size := blk_lt hb_b3
  have hlt_b4_w27 : b4 < w27.heap.size := blk_lt hb_b4
  have hlt_b5_w27 : b5 < w27.heap.size := blk_lt hb_b5
  have hlt_b6_w27 : b6 < w27.heap.size := blk_lt hb_b6
  have hlt_b7_w27 : b7 < w27.heap.size := blk_lt hb_b7
  have hlt_b8_w27 : b8 < w27.heap.size := blk_lt hb_b8
  have hlt_b9_w27 : b9 < w27.heap.size := blk_lt hb_b9
  have hlt_b10_w27 : b10 < w27.heap.size := blk_lt hb_b10
  have hlt_b11_w27 : b11 < w27.heap.size := blk_lt hb_b11
  have hz_w27 := hO.size
  rintro _ w28 ⟨ho_w28, ⟨A_47, c_47, rfl, hc_47, hv_47⟩⟩
  replace hb_b1 := ho_w28.get hb_b1
  replace hb_b2 := ho_w28.get hb_b2
  replace hb_b3 := ho_w28.get hb_b3
  replace hb_b4 := ho_w28.get hb_b4
  replace hb_b5 := ho_w28.get hb_b5
  replace hb_b6 := ho_w28.get hb_b6
  replace hb_b7 := ho_w28.get hb_b7
  replace hb_b8 := ho_w28.get hb_b8
  replace hb_b9 := ho_w28.get hb_b9
  replace hb_b10 := ho_w28.get hb_b10
  replace hb_b11 := ho_w28.get hb_b11
  have hsz_w28 := ho_w28.size
  replace hO := hO.ext ho_w28
  replace hv_21 := hv_21.ext ho_w28
  replace hv_23 := hv_23.ext ho_w28
  replace hv_24 := hv_24.ext ho_w28
  replace hv_26 := hv_26.ext ho_w28
  replace hv_29 := hv_29.ext ho_w28
  replace hv_32 := hv_32.ext ho_w28
  replace hv_40 := hv_40.ext ho_w28
  have hlr_hv_21_hv_48 := fun q hq => Own.lt (hv_21).1 (b := q) hq
  have hlr_hv_23_hv_48 := fun q hq => Own.lt (hv_23).1 (b := q) hq
  have hlr_hv_24_hv_48 := fun q hq => Own.lt (hv_24).1 (b := q) hq
  have hlr_hv_26_hv_48 := fun q hq => Own.lt (hv_26).1 (b := q) hq
  have hlr_hv_29_hv_48 := fun q hq => Own.lt (hv_29).1 (b := q) hq
  have hlr_hv_32_hv_48 := fun q hq => Own.lt (hv_32).1 (b := q) hq
  have hlr_hv_40_hv_48 := fun q hq => Own.lt (hv_40).1 (b := q) hq
  have hlr_hv_47_hv_48 := fun q hq => Own.lt (hv_47).1 (b := q) hq
  refine WL.eff _ rfl rfl (Eff.fn rfl rfl Try.call31 (by rintro _ rfl; exact kget _ _ _ Lp hLp hv_47.rd)) ?_
  have hlt_b1_w28 : b1 < w28.heap.size := blk_lt hb_b1
  have hlt_b2_w28 : b2 < w28.heap.size := blk_lt hb_b2
  have hlt_b3_w28 : b3 < w28.heap.size := blk_lt hb_b3
  have hlt_b4_w28 : b4 < w28.heap.size := blk_lt hb_b4
  have hlt_b5_w28 : b5 < w28.heap.size := blk_lt hb_b5
  have hlt_b6_w28 : b6 < w28.heap.size := blk_lt hb_b6
  have hlt_b7_w28 : b7 < w28.heap.size := blk_lt hb_b7
  have hlt_b8_w28 : b8 < w28.heap.size := blk_lt hb_b8
  have hlt_b9_w28 : b9 < w28.heap.size := blk_lt hb_b9
  have hlt_b10_w28 : b10 < w28.heap.size := blk_lt hb_b10
  have hlt_b11_w28 : b11 < w28.heap.size := blk_lt hb_b11
  have hz_w28 := hO.size
  rintro _ w29 ⟨ho_w29, ⟨A_48, c_48, rfl, hc_48, hv_48⟩⟩
  replace hb_b1 := ho_w29.get hb_b1
  replace hb_b2 := ho_w29.get hb_b2
  replace hb_b3 := ho_w29.get hb_b3
  replace hb_b4 := ho_w29.get hb_b4
  replace hb_b5 := ho_w29.get hb_b5
  replace hb_b6 := ho_w29.get hb_b6
  replace hb_b7 := ho_w29.get hb_b7
  replace hb_b8 := ho_w29.get hb_b8
  replace hb_b9 := ho_w29.get hb_b9
  replace hb_b10 := ho_w29.get hb_b10
  replace hb_b11 := ho_w29.get hb_b11
  have hsz_w29 := ho_w29.size
  replace hO := hO.ext ho_w29
  replace hv_21 := hv_21.ext ho_w29
  replace hv_23 := hv_23.ext ho_w29
  replace hv_24 := hv_24.ext ho_w29
  replace hv_26 := hv_26.ext ho_w29
  replace hv_29 := hv_29.ext ho_w29
  replace hv_32 := hv_32.ext ho_w29
  replace hv_40 := hv_40.ext ho_w29
  replace hv_47 := hv_47.ext ho_w29
  refine WL.yield rfl rfl rfl (Yield.move rfl rfl) ?_
  refine WL.yield rfl rfl rfl (Yield.extract (v := .agg #[.slice (A_48) ((kK : List En).length) (c_48)]) rfl rfl rfl) ?_
  refine WL.yield rfl rfl rfl (Yield.extract (v := .bool true) rfl rfl rfl) ?_
  refine WL.eff _ rfl rfl (Eff.alloc rfl Try.zeroValue41) ?_
  rintro _ w30 ⟨_, b12, rfl, hs_b12, rfl, he_w30⟩
  have hb_b12 : w30.heap[b12]? = some (.cells #[.slice (none) (0) (0)] 41 (0, 0)) := by rw [he_w30, hs_b12]; exact new_get _ _
  have ho_w30 : Ext w29 w30 := by rw [he_w30]; exact Ext.alloc _ _
  clear he_w30
  have hn_b12 : w.heap.size ≤ b12 := by rw [hs_b12]; exact hO.size
  have hl_hv_21_b12 := Nw.below hv_21 (Nat.le_of_eq hs_b12.symm)
  have hl_hv_23_b12 := Nw.below hv_23 (Nat.le_of_eq hs_b12.symm)
  have hl_hv_24_b12 := Nw.below hv_24 (Nat.le_of_eq hs_b12.symm)
  have hl_hv_26_b12 := Nw.below hv_26 (Nat.le_of_eq hs_b12.symm)
  have hl_hv_29_b12 := Nw.below hv_29 (Nat.le_of_eq hs_b12.symm)
  have hl_hv_32_b12 := Nw.below hv_32 (Nat.le_of_eq hs_b12.symm)
  have hl_hv_40_b12 := Nw.below hv_40 (Nat.le_of_eq hs_b12.symm)
  have hl_hv_47_b12 := Nw.below hv_47 (Nat.le_of_eq hs_b12.symm)
  have hl_hv_48_b12 := Nw.below hv_48 (Nat.le_of_eq hs_b12.symm)
  have hq_b1_b12 : b1 < b12 := by rw [hs_b12]; exact blk_lt hb_b1
  have hq_b2_b12 : b2 < b12 := by rw [hs_b12]; exact blk_lt hb_b2
  have hq_b3_b12 : b3 < b12 := by rw [hs_b12]; exact blk_lt hb_b3
  have hq_b4_b12 : b4 < b12 := by rw [hs_b12]; exact blk_lt hb_b4
  have hq_b5_b12 : b5 < b12 := by rw [hs_b12]; exact blk_lt hb_b5
  have hq_b6_b12 : b6 < b12 := by rw [hs_b12]; exact blk_lt hb_b6
  have hq_b7_b12 : b7 < b12 := by rw [hs_b12]; exact blk_lt hb_b7
  have hq_b8_b12 : b8 < b12 := by rw [hs_b12]; exact blk_lt hb_b8
  have hq_b9_b12 : b9 < b12 := by rw [hs_b12]; exact blk_lt hb_b9
  have hq_b10_b12 : b10 < b12 := by rw [hs_b12]; exact blk_lt hb_b10
  have hq_b11_b12 : b11 < b12 := by rw [hs_b12]; exact blk_lt hb_b11
  replace hb_b1 := ho_w30.get hb_b1
  replace hb_b2 := ho_w30.get hb_b2
  replace hb_b3 := ho_w30.get hb_b3
  replace hb_b4 := ho_w30.get hb_b4
  replace hb_b5 := ho_w30.get hb_b5
  replace hb_b6 := ho_w30.get hb_b6
  replace hb_b7 := ho_w30.get hb_b7
  replace hb_b8 := ho_w30.get hb_b8
  replace hb_b9 := ho_w30.get hb_b9
  replace hb_b10 := ho_w30.get hb_b10
  replace hb_b11 := ho_w30.get hb_b11
  have hsz_w30 := ho_w30.size
  replace hO := hO.ext ho_w30
  replace hv_21 := hv_21.ext ho_w30
  replace hv_23 := hv_23.ext ho_w30
  replace hv_24 := hv_24.ext ho_w30
  replace hv_26 := hv_26.ext ho_w30
  replace hv_29 := hv_29.ext ho_w30
  replace hv_32 := hv_32.ext ho_w30
  replace hv_40 := hv_40.ext ho_w30
  replace hv_47 := hv_47.ext ho_w30
  replace hv_48 := hv_48.ext ho_w30
  refine WL.eff _ rfl rfl (Eff.storeBlk (vs := [.slice (A_48) ((kK : List En).length) (c_48)]) (cs := [.slice (none) (0) (0)]) (cs' := [.slice (A_48) ((kK : List En).length) (c_48)]) rfl rfl rfl Try.sizeOf41 rfl (List.forall_mem_cons.2 ⟨rfl, (fun _ h => nomatch h)⟩) hb_b12 rfl rfl) ?_
  rintro _ w31 ⟨ho_w31, hb_new⟩
  replace hb_b1 := ho_w31.get hb_b1 (Nat.ne_of_lt hq_b1_b12)
  replace hb_b2 := ho_w31.get hb_b2 (Nat.ne_of_lt hq_b2_b12)
  replace hb_b3 := ho_w31.get hb_b3 (Nat.ne_of_lt hq_b3_b12)
  replace hb_b4 := ho_w31.get hb_b4 (Nat.ne_of_lt hq_b4_b12)
  replace hb_b5 := ho_w31.get hb_b5 (Nat.ne_of_lt hq_b5_b12)
  replace hb_b6 := ho_w31.get hb_b6 (Nat.ne_of_lt hq_b6_b12)
  replace hb_b7 := ho_w31.get hb_b7 (Nat.ne_of_lt hq_b7_b12)
  replace hb_b8 := ho_w31.get hb_b8 (Nat.ne_of_lt hq_b8_b12)
  replace hb_b9 := ho_w31.get hb_b9 (Nat.ne_of_lt hq_b9_b12)
  replace hb_b10 := ho_w31.get hb_b10 (Nat.ne_of_lt hq_b10_b12)
  replace hb_b11 := ho_w31.get hb_b11 (Nat.ne_of_lt hq_b11_b12)
  replace hb_b12 := hb_new
  have hsz_w31 := ho_w31.size
  replace hO := hO.trans ho_w31 (fun i hi1 hi2 => (Nat.not_lt.2 hn_b12 ((show i = b12 from hi2) ▸ hi1)).elim)
  replace hv_21 := hv_21.only ho_w31 (fun q hq h => absurd (show q = b12 from h) (Nat.ne_of_lt (hl_hv_21_b12 q hq)))
  replace hv_23 := hv_23.only ho_w31 (fun q hq h => absurd (show q = b12 from h) (Nat.ne_of_lt (hl_hv_23_b12 q hq)))
  replace hv_24 := hv_24.only ho_w31 (fun q hq h => absurd (show q = b12 from h) (Nat.ne_of_lt (hl_hv_24_b12 q hq)))
  replace hv_26 := hv_26.only ho_w31 (fun q hq h => absurd (show q = b12 from h) (Nat.ne_of_lt (hl_hv_26_b12 q hq)))
  replace hv_29 := hv_29.only ho_w31 (fun q hq h => absurd (show q = b12 from h) (Nat.ne_of_lt (hl_hv_29_b12 q hq)))
  replace hv_32 := hv_32.only ho_w31 (fun q hq h => absurd (show q = b12 from h) (Nat.ne_of_lt (hl_hv_32_b12 q hq)))
  replace hv_40 := hv_40.only ho_w31 (fun q hq h => absurd (show q = b12 from h) (Nat.ne_of_lt (hl_hv_40_b12 q hq)))
  replace hv_47 := hv_47.only ho_w31 (fun q hq h => absurd (show q = b12 from h) (Nat.ne_of_lt (hl_hv_47_b12 q hq)))
  replace hv_48 := hv_48.only ho_w31 (fun q hq h => absurd (show q = b12 from h) (Nat.ne_of_lt (hl_hv_48_b12 q hq)))
  refine WL.yield rfl rfl rfl (Yield.assign rfl rfl) ?_
  refine WL.fin ?_
  refine Nm.code ?_
  refine W.seq ?_
  refine W.region ?_
  refine WL.yield rfl rfl rfl (Yield.loadAgg (cs := [.slice (some ⟨b1, 0, none⟩) (3) (3)]) rfl rfl Try.isAgg41 Try.sizeOf41 (blk_cells hb_b2 rfl)) ?_
  have hlr_hv_21_hv_53 := fun q hq => Own.lt (hv_21).1 (b := q) hq
  have hlr_hv_23_hv_53 := fun q hq => Own.lt (hv_23).1 (b := q) hq
  have hlr_hv_24_hv_53 := fun q hq => Own.lt (hv_24).1 (b := q) hq
  have hlr_hv_26_hv_53 := fun q hq => Own.lt (hv_26).1 (b := q) hq
  have hlr_hv_29_hv_53 := fun q hq => Own.lt (hv_29).1 (b := q) hq
  have hlr_hv_32_hv_53 := fun q hq => Own.lt (hv_32).1 (b := q) hq
  have hlr_hv_40_hv_53 := fun q hq => Own.lt (hv_40).1 (b := q) hq
  have hlr_hv_47_hv_53 := fun q hq => Own.lt (hv_47).1 (b := q) hq
  have hlr_hv_48_hv_53 := fun q hq => Own.lt (hv_48).1 (b := q) hq
  refine WL.eff _ rfl rfl (Eff.fn rfl rfl Try.call33 (by rintro _ rfl; exact k_putK _ _ _ (blk_rd (E := encEn) (l := kK) hb_b1 rfl) Lp hLp)) ?_
  have hlt_b1_w31 : b1 < w31.heap.size := blk_lt hb_b1
  have hlt_b2_w31 : b2 < w31.heap.size := blk_lt hb_b2
  have hlt_b3_w31 : b3 < w31.heap.size := blk_lt hb_b3
  have hlt_b4_w31 : b4 < w31.heap.size := blk_lt hb_b4
  have hlt_b5_w31 : b5 < w31.heap.size := blk_lt hb_b5
  have hlt_b6_w31 : b6 < w31.heap.size := blk_lt hb_b6
  have hlt_b7_w31 : b7 < w31.heap.size := blk_lt hb_b7
  have hlt_b8_w31 : b8 < w31.heap.size := blk_lt hb_b8
  have hlt_b9_w31 : b9 < w31.heap.size := blk_lt hb_b9
  have hlt_b10_w31 : b10 < w31.heap.size := blk_lt hb_b10
  have hlt_b11_w31 : b11 < w31.heap.size := blk_lt hb_b11
  have hlt_b12_w31 : b12 < w31.heap.size := blk_lt hb_b12
  have hz_w31 := hO.size
  rintro _ w32 ⟨ho_w32, ⟨A_53, c_53, rfl, hc_53, hv_53⟩⟩
  replace hb_b1 := ho_w32.get hb_b1
  replace hb_b2 := ho_w32.get hb_b2
  replace hb_b3 := ho_w32.get hb_b3
  replace hb_b4 := ho_w32.get hb_b4
  replace hb_b5 := ho_w32.get hb_b5
  replace hb_b6 := ho_w32.get hb_b6
  replace hb_b7 := ho_w32.get hb_b7
  replace hb_b8 := ho_w32.get hb_b8
  replace hb_b9 := ho_w32.get hb_b9
  replace hb_b10 := ho_w32.get hb_b10
  replace hb_b11 := ho_w32.get hb_b11
  replace hb_b12 := ho_w32.get hb_b12
  have hsz_w32 := ho_w32.size
  replace hO := hO.ext ho_w32
  replace hv_21 := hv_21.ext ho_w32
  replace hv_23 := hv_23.ext ho_w32
  replace hv_24 := hv_24.ext ho_w32
  replace hv_26 := hv_26.ext ho_w32
  replace hv_29 := hv_29.ext ho_w32
  replace hv_32 := hv_32.ext ho_w32
  replace hv_40 := hv_40.ext ho_w32
  replace hv_47 := hv_47.ext ho_w32
  replace hv_48 := hv_48.ext ho_w32
  refine WL.eff _ rfl rfl (Eff.buildSlice (cs := [.int .u8 (0)]) [.int .u8 (0)] rfl rfl Try.runUnderlying33 Try.sizeOf5 Try.zeroValue5 rfl rfl rfl (List.forall_mem_cons.2 ⟨rfl, (fun _ h => nomatch h)⟩) rfl) ?_
  rintro _ w33 ⟨_, b13, rfl, hs_b13, rfl, he_w33⟩
  have hb_b13 : w33.heap[b13]? = some (.cells #[.int .u8 (0)] 5 (0, 0)) := by rw [he_w33, hs_b13]; exact new_get _ _
  have ho_w33 : Ext w32 w33 := by rw [he_w33]; exact Ext.alloc _ _
  clear he_w33
  have hn_b13 : w.heap.size ≤ b13 := by rw [hs_b13]; exact hO.size
  have hl_hv_21_b13 := Nw.below hv_21 (Nat.le_of_eq hs_b13.symm)
  have hl_hv_23_b13 := Nw.below hv_23 (Nat.le_of_eq hs_b13.symm)
  have hl_hv_24_b13 := Nw.below hv_24 (Nat.le_of_eq hs_b13.symm)
  have hl_hv_26_b13 := Nw.below hv_26 (Nat.le_of_eq hs_b13.symm)
  have hl_hv_29_b13 := Nw.below hv_29 (Nat.le_of_eq hs_b13.symm)
  have hl_hv_32_b13 := Nw.below hv_32 (Nat.le_of_eq hs_b13.symm)
  have hl_hv_40_b13 := Nw.below hv_40 (Nat.le_of_eq hs_b13.symm)
  have hl_hv_47_b13 := Nw.below hv_47 (Nat.le_of_eq hs_b13.symm)
  have hl_hv_48_b13 := Nw.below hv_48 (Nat.le_of_eq hs_b13.symm)
  have hl_hv_53_b13 := Nw.below hv_53 (Nat.le_of_eq hs_b13.symm)
  have hq_b1_b13 : b1 < b13 := by rw [hs_b13]; exact blk_lt hb_b1
  have hq_b2_b13 : b2 < b13 := by rw [hs_b13]; exact blk_lt hb_b2
  have hq_b3_b13 : b3 < b13 := by rw [hs_b13]; exact blk_lt hb_b3
  have hq_b4_b13 : b4 < b13 := by rw [hs_b13]; exact blk_lt hb_b4
  have hq_b5_b13 : b5 < b13 := by rw [hs_b13]; exact blk_lt hb_b5
  have hq_b6_b13 : b6 < b13 := by rw [hs_b13]; exact blk_lt hb_b6
  have hq_b7_b13 : b7 < b13 := by rw [hs_b13]; exact blk_lt hb_b7
  have hq_b8_b13 : b8 < b13 := by rw [hs_b13]; exact blk_lt hb_b8
  have hq_b9_b13 : b9 < b13 := by rw [hs_b13]; exact blk_lt hb_b9
  have hq_b10_b13 : b10 < b13 := by rw [hs_b13]; exact blk_lt hb_b10
  have hq_b11_b13 : b11 < b13 := by rw [hs_b13]; exact blk_lt hb_b11
  have hq_b12_b13 : b12 < b13 := by rw [hs_b13]; exact blk_lt hb_b12
  replace hb_b1 := ho_w33.get hb_b1
  replace hb_b2 := ho_w33.get hb_b2
  replace hb_b3 := ho_w33.get hb_b3
  replace hb_b4 := ho_w33.get hb_b4
  replace hb_b5 := ho_w33.get hb_b5
  replace hb_b6 := ho_w33.get hb_b6
  replace hb_b7 := ho_w33.get hb_b7
  replace hb_b8 := ho_w33.get hb_b8
  replace hb_b9 := ho_w33.get hb_b9
  replace hb_b10 := ho_w33.get hb_b10
  replace hb_b11 := ho_w33.get hb_b11
  replace hb_b12 := ho_w33.get hb_b12
  have hsz_w33 := ho_w33.size
  replace hO := hO.ext ho_w33
  replace hv_21 := hv_21.ext ho_w33
  replace hv_23 := hv_23.ext ho_w33
  replace hv_24 := hv_24.ext ho_w33
  replace hv_26 := hv_26.ext ho_w33
  replace hv_29 := hv_29.ext ho_w33
  replace hv_32 := hv_32.ext ho_w33
  replace hv_40 := hv_40.ext ho_w33
  replace hv_47 := hv_47.ext ho_w33
  replace hv_48 := hv_48.ext ho_w33
  replace hv_53 := hv_53.ext ho_w33
  refine WL.eff _ rfl rfl (Eff.pushD (E := encB) (xs := Lp) (ys := [0]) (bytes := 1) (i := Try.t5) (z := .int .u8 (0)) rfl rfl rfl rfl Try.underlying33 Try.underlying33 (by kernel_rfl) rfl rfl rfl rfl (by omega) hv_53 ((blk_rd (E := encB) (l := [0]) hb_b13 rfl)) rfl (by rw [hLp, kput]; decide)) ?_
  rintro v_p w34 ⟨hw_p, ho_w34, hd_w34⟩
  obtain ⟨A_p, c_p, rfl, hc_p, hv_p⟩ := hw_p.toSl
  have hl_hv_p_b1 : ∀ p_, (Value.slice A_p (Lp ++ [0]).length c_p).ownBlock = some p_ → p_ ≠ b1 := fun p_ hp_ h3 => hd_w34 b1 (blk_lt hb_b1) (fun h => by have h1 := (hv_53).2 _ h; omega) (h3 ▸ hp_)
  have hl_hv_p_b2 : ∀ p_, (Value.slice A_p (Lp ++ [0]).length c_p).ownBlock = some p_ → p_ ≠ b2 := fun p_ hp_ h3 => hd_w34 b2 (blk_lt hb_b2) (fun h => by have h1 := (hv_53).2 _ h; omega) (h3 ▸ hp_)
  have hl_hv_p_b3 : ∀ p_, (Value.slice A_p (Lp ++ [0]).length c_p).ownBlock = some p_ → p_ ≠ b3 := fun p_ hp_ h3 => hd_w34 b3 (blk_lt hb_b3) (fun h => by have h1 := (hv_53).2 _ h; omega) (h3 ▸ hp_)
  have hl_hv_p_b4 : ∀ p_, (Value.slice A_p (Lp ++ [0]).length c_p).ownBlock = some p_ → p_ ≠ b4 := fun p_ hp_ h3 => hd_w34 b4 (blk_lt hb_b4) (fun h => by have h1 := (hv_53).2 _ h; omega) (h3 ▸ hp_)
  have hl_hv_p_b5 : ∀ p_, (Value.slice A_p (Lp ++ [0]).length c_p).ownBlock = some p_ → p_ ≠ b5 := fun p_ hp_ h3 => hd_w34 b5 (blk_lt hb_b5) (fun h => by have h1 := (hv_53).2 _ h; omega) (h3 ▸ hp_)
  have hl_hv_p_b6 : ∀ p_, (Value.slice A_p (Lp ++ [0]).length c_p).ownBlock = some p_ → p_ ≠ b6 := fun p_ hp_ h3 => hd_w34 b6 (blk_lt hb_b6) (fun h => by have h1 := (hv_53).2 _ h; omega) (h3 ▸ hp_)
  have hl_hv_p_b7 : ∀ p_, (Value.slice A_p (Lp ++ [0]).length c_p).ownBlock = some p_ → p_ ≠ b7 := fun p_ hp_ h3 => hd_w34 b7 (blk_lt hb_b7) (fun h => by have h1 := (hv_53).2 _ h; omega) (h3 ▸ hp_)
  have hl_hv_p_b8 : ∀ p_, (Value.slice A_p (Lp ++ [0]).length c_p).ownBlock = some p_ → p_ ≠ b8 := fun p_ hp_ h3 => hd_w34 b8 (blk_lt hb_b8) (fun h => by have h1 := (hv_53).2 _ h; omega) (h3 ▸ hp_)
  have hl_hv_p_b9 : ∀ p_, (Value.slice A_p (Lp ++ [0]).length c_p).ownBlock = some p_ → p_ ≠ b9 := fun p_ hp_ h3 => hd_w34 b9 (blk_lt hb_b9) (fun h => by have h1 := (hv_53).2 _ h; omega) (h3 ▸ hp_)
  have hl_hv_p_b10 : ∀ p_, (Value.slice A_p (Lp ++ [0]).length c_p).ownBlock = some p_ → p_ ≠ b10 := fun p_ hp_ h3 => hd_w34 b10 (blk_lt hb_b10) (fun h => by have h1 := (hv_53).2 _ h; omega) (h3 ▸ hp_)
  have hl_hv_p_b11 : ∀ p_, (Value.slice A_p (Lp ++ [0]).length c_p).ownBlock = some p_ → p_ ≠ b11 := fun p_ hp_ h3 => hd_w34 b11 (blk_lt hb_b11) (fun h => by have h1 := (hv_53).2 _ h; omega) (h3 ▸ hp_)
  have hl_hv_p_b12 : ∀ p_, (Value.slice A_p (Lp ++ [0]).length c_p).ownBlock = some p_ → p_ ≠ b12 := fun p_ hp_ h3 => hd_w34 b12 (blk_lt hb_b12) (fun h => by have h1 := (hv_53).2 _ h; omega) (h3 ▸ hp_)
  have hl_hv_p_b13 : ∀ p_, (Value.slice A_p (Lp ++ [0]).length c_p).ownBlock = some p_ → p_ ≠ b13 := fun p_ hp_ h3 => hd_w34 b13 (blk_lt hb_b13) (fun h => by have h1 := (hv_53).2 _ h; have h2 := hl_hv_53_b13 _ h; omega) (h3 ▸ hp_)
  replace hb_b1 := ho_w34.get hb_b1 (fun h => by have h1 := (hv_53).2 _ h; omega)
  replace hb_b2 := ho_w34.get hb_b2 (fun h => by have h1 := (hv_53).2 _ h; omega)
  replace hb_b3 := ho_w34.get hb_b3 (fun h => by have h1 := (hv_53).2 _ h; omega)
  replace hb_b4 := ho_w34.get hb_b4 (fun h => by have h1 := (hv_53).2 _ h; omega)
  replace hb_b5 := ho_w34.get hb_b5 (fun h => by have h1 := (hv_53).2 _ h; omega)
  replace hb_b6 := ho_w34.get hb_b6 (fun h => by have h1 := (hv_53).2 _ h; omega)
  replace hb_b7 := ho_w34.get hb_b7 (fun h => by have h1 := (hv_53).2 _ h; omega)
  replace hb_b8 := ho_w34.get hb_b8 (fun h => by have h1 := (hv_53).2 _ h; omega)
  replace hb_b9 := ho_w34.get hb_b9 (fun h => by have h1 := (hv_53).2 _ h; omega)
  replace hb_b10 := ho_w34.get hb_b10 (fun h => by have h1 := (hv_53).2 _ h; omega)
  replace hb_b11 := ho_w34.get hb_b11 (fun h => by have h1 := (hv_53).2 _ h; omega)
  replace hb_b12 := ho_w34.get hb_b12 (fun h => by have h1 := (hv_53).2 _ h; omega)
  replace hb_b13 := ho_w34.get hb_b13 (fun h => by have h1 := (hv_53).2 _ h; have h2 := hl_hv_53_b13 _ h; omega)
  replace hO := hO.trans ho_w34 (fun i hi1 h => by have h1 := (hv_53).2 _ h; first | (exfalso; omega) | omega)
  replace hv_21 := hv_21.only ho_w34 (fun q hq hh => by have h1 := (hv_53).2 _ hh; have h2 := hlr_hv_21_hv_53 q hq; omega)
  replace hv_23 := hv_23.only ho_w34 (fun q hq hh => by have h1 := (hv_53).2 _ hh; have h2 := hlr_hv_23_hv_53 q hq; omega)
  replace hv_24 := hv_24.only ho_w34 (fun q hq hh => by have h1 := (hv_53).2 _ hh; have h2 := hlr_hv_24_hv_53 q hq; omega)
  replace hv_26 := hv_26.only ho_w34 (fun q hq hh => by have h1 := (hv_53).2 _ hh; have h2 := hlr_hv_26_hv_53 q hq; omega)
  replace hv_29 := hv_29.only ho_w34 (fun q hq hh => by have h1 := (hv_53).2 _ hh; have h2 := hlr_hv_29_hv_53 q hq; omega)
  replace hv_32 := hv_32.only ho_w34 (fun q hq hh => by have h1 := (hv_53).2 _ hh; have h2 := hlr_hv_32_hv_53 q hq; omega)
  replace hv_40 := hv_40.only ho_w34 (fun q hq hh => by have h1 := (hv_53).2 _ hh; have h2 := hlr_hv_40_hv_53 q hq; omega)
  replace hv_47 := hv_47.only ho_w34 (fun q hq hh => by have h1 := (hv_53).2 _ hh; have h2 := hlr_hv_47_hv_53 q hq; omega)
  replace hv_48 := hv_48.only ho_w34 (fun q hq hh => by have h1 := (hv_53).2 _ hh; have h2 := hlr_hv_48_hv_53 q hq; omega)
  have hlr_hv_21_hv_56 := fun q hq => Own.lt (hv_21).1 (b := q) hq
  have hlr_hv_23_hv_56 := fun q hq => Own.lt (hv_23).1 (b := q) hq
  have hlr_hv_24_hv_56 := fun q hq => Own.lt (hv_24).1 (b := q) hq
  have hlr_hv_26_hv_56 := fun q hq => Own.lt (hv_26).1 (b := q) hq
  have hlr_hv_29_hv_56 := fun q hq => Own.lt (hv_29).1 (b := q) hq
  have hlr_hv_32_hv_56 := fun q hq => Own.lt (hv_32).1 (b := q) hq
  have hlr_hv_40_hv_56 := fun q hq => Own.lt (hv_40).1 (b := q) hq
  have hlr_hv_47_hv_56 := fun q hq => Own.lt (hv_47).1 (b := q) hq
  have hlr_hv_48_hv_56 := fun q hq => Own.lt (hv_48).1 (b := q) hq
  have hlr_hv_p_hv_56 := fun q hq => Own.lt (hv_p).1 (b := q) hq
  refine WL.eff _ rfl rfl (Eff.fn rfl rfl Try.call31 (by rintro _ rfl; exact kget0 _ _ _ Lp hLp hv_p.rd)) ?_
  have hlt_b1_w34 : b1 < w34.heap.size := blk_lt hb_b1
  have hlt_b2_w34 : b2 < w34.heap.size := blk_lt hb_b2
  have hlt_b3_w34 : b3 < w34.heap.size := blk_lt hb_b3
  have hlt_b4_w34 : b4 < w34.heap.size := blk_lt hb_b4
  have hlt_b5_w34 : b5 < w34.heap.size := blk_lt hb_b5
  have hlt_b6_w34 : b6 < w34.heap.size := blk_lt hb_b6
  have hlt_b7_w34 : b7 < w34.heap.size := blk_lt hb_b7
  have hlt_b8_w34 : b8 < w34.heap.size := blk_lt hb_b8
  have hlt_b9_w34 : b9 < w34.heap.size := blk_lt hb_b9
  have hlt_b10_w34 : b10 < w34.heap.size := blk_lt hb_b10
  have hlt_b11_w34 : b11 < w34.heap.size := blk_lt hb_b11
  have hlt_b12_w34 : b12 < w34.heap.size := blk_lt hb_b12
  have hlt_b13_w34 : b13 < w34.heap.size := blk_lt hb_b13
  have hz_w34 := hO.size
  rintro _ w35 ⟨ho_w35, ⟨A_56, c_56, rfl, hc_56, hv_56⟩⟩
  replace hb_b1 := ho_w35.get hb_b1
  replace hb_b2 := ho_w35.get hb_b2
  replace hb_b3 := ho_w35.get hb_b3
  replace hb_b4 := ho_w35.get hb_b4
  replace hb_b5 := ho_w35.get hb_b5
  replace hb_b6 := ho_w35.get hb_b6
  replace hb_b7 := ho_w35.get hb_b7
  replace hb_b8 := ho_w35.get hb_b8
  replace hb_b9 := ho_w35.get hb_b9
  replace hb_b10 := ho_w35.get hb_b10
  replace hb_b11 := ho_w35.get hb_b11
  replace hb_b12 := ho_w35.get hb_b12
  replace hb_b13 := ho_w35.get hb_b13
  have hsz_w35 := ho_w35.size
  replace hO := hO.ext ho_w35
  replace hv_21 := hv_21.ext ho_w35
  replace hv_23 := hv_23.ext ho_w35
  replace hv_24 := hv_24.ext ho_w35
  replace hv_26 := hv_26.ext ho_w35
  replace hv_29 := hv_29.ext ho_w35
  replace hv_32 := hv_32.ext ho_w35
  replace hv_40 := hv_40.ext ho_w35
  replace hv_47 := hv_47.ext ho_w35
  replace hv_48 := hv_48.ext ho_w35
  replace hv_p := hv_p.ext ho_w35
  refine WL.yield rfl rfl rfl (Yield.move rfl rfl) ?_
  refine WL.yield rfl rfl rfl (Yield.extract (v := .agg #[.slice (A_56) (([] : List En).length) (c_56)]) rfl rfl rfl) ?_
  refine WL.yield rfl rfl rfl (Yield.extract (v := .bool false) rfl rfl rfl) ?_
  refine WL.eff _ rfl rfl (Eff.alloc rfl Try.zeroValue41) ?_
  rintro _ w36 ⟨_, b14, rfl, hs_b14, rfl, he_w36⟩
  have hb_b14 : w36.heap[b14]? = some (.cells #[.slice (none) (0) (0)] 41 (0, 0)) := by rw [he_w36, hs_b14]; exact new_get _ _
  have ho_w36 : Ext w35 w36 := by rw [he_w36]; exact Ext.alloc _ _
  clear he_w36
  have hn_b14 : w.heap.size ≤ b14 := by rw [hs_b14]; exact hO.size
  have hl_hv_21_b14 := Nw.below hv_21 (Nat.le_of_eq hs_b14.symm)
  have hl_hv_23_b14 := Nw.below hv_23 (Nat.le_of_eq hs_b14.symm)
  have hl_hv_24_b14 := Nw.below hv_24 (Nat.le_of_eq hs_b14.symm)
  have hl_hv_26_b14 := Nw.below hv_26 (Nat.le_of_eq hs_b14.symm)
  have hl_hv_29_b14 := Nw.below hv_29 (Nat.le_of_eq hs_b14.symm)
  have hl_hv_32_b14 := Nw.below hv_32 (Nat.le_of_eq hs_b14.symm)
  have hl_hv_40_b14 := Nw.below hv_40 (Nat.le_of_eq hs_b14.symm)
  have hl_hv_47_b14 := Nw.below hv_47 (Nat.le_of_eq hs_b14.symm)
  have hl_hv_48_b14 := Nw.below hv_48 (Nat.le_of_eq hs_b14.symm)
  have hl_hv_p_b14 := Nw.below hv_p (Nat.le_of_eq hs_b14.symm)
  have hl_hv_56_b14 := Nw.below hv_56 (Nat.le_of_eq hs_b14.symm)
  have hq_b1_b14 : b1 < b14 := by rw [hs_b14]; exact blk_lt hb_b1
  have hq_b2_b14 : b2 < b14 := by rw [hs_b14]; exact blk_lt hb_b2
  have hq_b3_b14 : b3 < b14 := by rw [hs_b14]; exact blk_lt hb_b3
  have hq_b4_b14 : b4 < b14 := by rw [hs_b14]; exact blk_lt hb_b4
  have hq_b5_b14 : b5 < b14 := by rw [hs_b14]; exact blk_lt hb_b5
  have hq_b6_b14 : b6 < b14 := by rw [hs_b14]; exact blk_lt hb_b6
  have hq_b7_b14 : b7 < b14 := by rw [hs_b14]; exact blk_lt hb_b7
  have hq_b8_b14 : b8 < b14 := by rw [hs_b14]; exact blk_lt hb_b8
  have hq_b9_b14 : b9 < b14 := by rw [hs_b14]; exact blk_lt hb_b9
  have hq_b10_b14 : b10 < b14 := by rw [hs_b14]; exact blk_lt hb_b10
  have hq_b11_b14 : b11 < b14 := by rw [hs_b14]; exact blk_lt hb_b11
  have hq_b12_b14 : b12 < b14 := by rw [hs_b14]; exact blk_lt hb_b12
  have hq_b13_b14 : b13 < b14 := by rw [hs_b14]; exact blk_lt hb_b13
  replace hb_b1 := ho_w36.get hb_b1
  replace hb_b2 := ho_w36.get hb_b2
  replace hb_b3 := ho_w36.get hb_b3
  replace hb_b4 := ho_w36.get hb_b4
  replace hb_b5 := ho_w36.get hb_b5
  replace hb_b6 := ho_w36.get hb_b6
  replace hb_b7 := ho_w36.get hb_b7
  replace hb_b8 := ho_w36.get hb_b8
  replace hb_b9 := ho_w36.get hb_b9
  replace hb_b10 := ho_w36.get hb_b10
  replace hb_b11 := ho_w36.get hb_b11
  replace hb_b12 := ho_w36.get hb_b12
  replace hb_b13 := ho_w36.get hb_b13
  have hsz_w36 := ho_w36.size
  replace hO := hO.ext ho_w36
  replace hv_21 := hv_21.ext ho_w36
  replace hv_23 := hv_23.ext ho_w36
  replace hv_24 := hv_24.ext ho_w36
  replace hv_26 := hv_26.ext ho_w36
  replace hv_29 := hv_29.ext ho_w36
  replace hv_32 := hv_32.ext ho_w36
  replace hv_40 := hv_40.ext ho_w36
  replace hv_47 := hv_47.ext ho_w36
  replace hv_48 := hv_48.ext ho_w36
  replace hv_p := hv_p.ext ho_w36
  replace hv_56 := hv_56.ext ho_w36
  refine WL.eff _ rfl rfl (Eff.storeBlk (vs := [.slice (A_56) (([] : List En).length) (c_56)]) (cs := [.slice (none) (0) (0)]) (cs' := [.slice (A_56) (([] : List En).length) (c_56)]) rfl rfl rfl Try.sizeOf41 rfl (List.forall_mem_cons.2 ⟨rfl, (fun _ h => nomatch h)⟩) hb_b14 rfl rfl) ?_
  rintro _ w37 ⟨ho_w37, hb_new⟩
  replace hb_b1 := ho_w37.get hb_b1 (Nat.ne_of_lt hq_b1_b14)
  replace hb_b2 := ho_w37.get hb_b2 (Nat.ne_of_lt hq_b2_b14)
  replace hb_b3 := ho_w37.get hb_b3 (Nat.ne_of_lt hq_b3_b14)
  replace hb_b4 := ho_w37.get hb_b4 (Nat.ne_of_lt hq_b4_b14)
  replace hb_b5 := ho_w37.get hb_b5 (Nat.ne_of_lt hq_b5_b14)
  replace hb_b6 := ho_w37.get hb_b6 (Nat.ne_of_lt hq_b6_b14)
  replace hb_b7 := ho_w37.get hb_b7 (Nat.ne_of_lt hq_b7_b14)
  replace hb_b8 := ho_w37.get hb_b8 (Nat.ne_of_lt hq_b8_b14)
  replace hb_b9 := ho_w37.get hb_b9 (Nat.ne_of_lt hq_b9_b14)
  replace hb_b10 := ho_w37.get hb_b10 (Nat.ne_of_lt hq_b10_b14)
  replace hb_b11 := ho_w37.get hb_b11 (Nat.ne_of_lt hq_b11_b14)
  replace hb_b12 := ho_w37.get hb_b12 (Nat.ne_of_lt hq_b12_b14)
  replace hb_b13 := ho_w37.get hb_b13 (Nat.ne_of_lt hq_b13_b14)
  replace hb_b14 := hb_new
  have hsz_w37 := ho_w37.size
  replace hO := hO.trans ho_w37 (fun i hi1 hi2 => (Nat.not_lt.2 hn_b14 ((show i = b14 from hi2) ▸ hi1)).elim)
  replace hv_21 := hv_21.only ho_w37 (fun q hq h => absurd (show q = b14 from h) (Nat.ne_of_lt (hl_hv_21_b14 q hq)))
  replace hv_23 := hv_23.only ho_w37 (fun q hq h => absurd (show q = b14 from h) (Nat.ne_of_lt (hl_hv_23_b14 q hq)))
  replace hv_24 := hv_24.only ho_w37 (fun q hq h => absurd (show q = b14 from h) (Nat.ne_of_lt (hl_hv_24_b14 q hq)))
  replace hv_26 := hv_26.only ho_w37 (fun q hq h => absurd (show q = b14 from h) (Nat.ne_of_lt (hl_hv_26_b14 q hq)))
  replace hv_29 := hv_29.only ho_w37 (fun q hq h => absurd (show q = b14 from h) (Nat.ne_of_lt (hl_hv_29_b14 q hq)))
  replace hv_32 := hv_32.only ho_w37 (fun q hq h => absurd (show q = b14 from h) (Nat.ne_of_lt (hl_hv_32_b14 q hq)))
  replace hv_40 := hv_40.only ho_w37 (fun q hq h => absurd (show q = b14 from h) (Nat.ne_of_lt (hl_hv_40_b14 q hq)))
  replace hv_47 := hv_47.only ho_w37 (fun q hq h => absurd (show q = b14 from h) (Nat.ne_of_lt (hl_hv_47_b14 q hq)))
  replace hv_48 := hv_48.only ho_w37 (fun q hq h => absurd (show q = b14 from h) (Nat.ne_of_lt (hl_hv_48_b14 q hq)))
  replace hv_p := hv_p.only ho_w37 (fun q hq h => absurd (show q = b14 from h) (Nat.ne_of_lt (hl_hv_p_b14 q hq)))
  replace hv_56 := hv_56.only ho_w37 (fun q hq h => absurd (show q = b14 from h) (Nat.ne_of_lt (hl_hv_56_b14 q hq)))
  refine WL.yield rfl rfl rfl (Yield.assign rfl rfl) ?_
  refine WL.fin ?_
  refine Nm.code ?_
  refine W.seq ?_
  have hlt_b1_w37 : b1 < w37.heap.size := blk_lt hb_b1
  have hlt_b2_w37 : b2 < w37.heap.size := blk_lt hb_b2
  have hlt_b3_w37 : b3 < w37.heap.size := blk_lt hb_b3
  have hlt_b4_w37 : b4 < w37.heap.size := blk_lt hb_b4
  have hlt_b5_w37 : b5 < w37.heap.size := blk_lt hb_b5
  have hlt_b6_w37 : b6 < w37.heap.size := blk_lt hb_b6
  have hlt_b7_w37 : b7 < w37.heap.size := blk_lt hb_b7
  have hlt_b8_w37 : b8 < w37.heap.size := blk_lt hb_b8
  have hlt_b9_w37 : b9 < w37.heap.size := blk_lt hb_b9
  have hlt_b10_w37 : b10 < w37.heap.size := blk_lt hb_b10
  have hlt_b11_w37 : b11 < w37.heap.size := blk_lt hb_b11
  have hlt_b12_w37 : b12 < w37.heap.size := blk_lt hb_b12
  have hlt_b13_w37 : b13 < w37.heap.size := blk_lt hb_b13
  have hlt_b14_w37 : b14 < w37.heap.size := blk_lt hb_b14
  have hz_w37 := hO.size
  refine W.region_flat 93 Try_follows (by kernel_rfl) (by kernel_rfl) rfl ?_
  refine FL.run (i := 0) [] false (fun v_ _ => v_ = .pointer (some ⟨b3, 0, none⟩)) rfl rfl rfl (by kernel_rfl) (Stable.eq _) ?_ ?_
  · intro wb1 ho_wb1
    exact And.intro rfl (Eff.reads (Yield.fieldAt (k := 0) rfl rfl Try.runUnderlying41 rfl Try.sizeOf39 rfl) rfl)
  refine FL.run (i := 1) [0] false (fun v_ _ => v_ = .slice (A_21) (L21.length) (c_21)) rfl rfl rfl (by kernel_rfl) (Stable.eq _) ?_ ?_
  · intro wb1 ho_wb1
    rintro _ rfl
    have hb_b3 := ho_wb1.get hb_b3
    exact And.intro rfl (Eff.reads (Yield.load (v := .slice (A_21) (L21.length) (c_21)) rfl rfl Try.isAgg39 (cell_get hb_b3 rfl)) rfl)
  refine FL.run (i := 2) [1] true (NwSl w37.heap.size encEn 66 L21) rfl rfl rfl (by kernel_rfl) (NwSl.stable _ _ _ _) ?_ ?_
  · intro wb1 ho_wb1
    rintro _ rfl
    have hv_21 := hv_21.ext ho_wb1
    exact And.intro rfl (Eff.callsSl w37.heap.size ho_wb1.size (Eff.fn rfl rfl Try.call24 (by rintro _ rfl; exact log1_any _ _ _ _ hv_21.rd (by rw [hL21]; decide))))
  refine FL.run (i := 3) [] false (fun v_ _ => v_ = .agg #[.int .i64 (0), .int .u64 (1), .int .u64 (4)]) rfl rfl rfl (by kernel_rfl) (Stable.eq _) ?_ ?_
  · intro wb1 ho_wb1
    exact And.intro rfl (Eff.reads (Yield.build (cells := #[.int .i64 (0), .int .u64 (1), .int .u64 (4)]) rfl rfl (by kernel_rfl)) rfl)
  refine FL.run (i := 4) [] false (fun v_ _ => v_ = .agg #[.int .i64 (0), .int .u64 (2), .int .u64 (0)]) rfl rfl rfl (by kernel_rfl) (Stable.eq _) ?_ ?_
  · intro wb1 ho_wb1
    exact And.intro rfl (Eff.reads (Yield.build (cells := #[.int .i64 (0), .int .u64 (2), .int .u64 (0)]) rfl rfl (by kernel_rfl)) rfl)
  refine FL.run (i := 5) [] false (fun v_ _ => v_ = .agg #[.int .i64 (1), .int .u64 (5), .int .u64 (0)]) rfl rfl rfl (by kernel_rfl) (Stable.eq _) ?_ ?_
  · intro wb1 ho_wb1
    exact And.intro rfl (Eff.reads (Yield.build (cells := #[.int .i64 (1), .int .u64 (5), .int .u64 (0)]) rfl rfl (by kernel_rfl)) rfl)
  refine FL.run (i := 6) [3, 4, 5] true (fun v_ w_ => ∃ b_, v_ = .slice (some ⟨b_, 0, none⟩) (3) (3) ∧ w_.heap[b_]? = some (.cells #[.int .i64 (0), .int .u64 (1), .int .u64 (4), .int .i64 (0), .int .u64 (2), .int .u64 (0), .int .i64 (1), .int .u64 (5), .int .u64 (0)] 66 (0, 0)) ∧ w37.heap.size ≤ b_) rfl rfl rfl (by kernel_rfl) (Stable.blk (mk := fun b_ => .slice (some ⟨b_, 0, none⟩) (3) (3))) ?_ ?_
  · intro wb1 ho_wb1
    rintro _ rfl
    rintro _ rfl
    rintro _ rfl
    exact And.intro rfl (Eff.newSlice w37.heap.size ho_wb1.size (Eff.buildSlice (len := 3) (cs := [.int .i64 (0), .int .u64 (1), .int .u64 (4), .int .i64 (0), .int .u64 (2), .int .u64 (0), .int .i64 (1), .int .u64 (5), .int .u64 (0)]) [.agg #[.int .i64 (0), .int .u64 (1), .int .u64 (4)], .agg #[.int .i64 (0), .int .u64 (2), .int .u64 (0)], .agg #[.int .i64 (1), .int .u64 (5), .int .u64 (0)]] rfl rfl Try.runUnderlying45 Try.sizeOf66 Try.zeroValue66 rfl rfl rfl (List.forall_mem_cons.2 ⟨rfl, (List.forall_mem_cons.2 ⟨rfl, (List.forall_mem_cons.2 ⟨rfl, (fun _ h => nomatch h)⟩)⟩)⟩) rfl))
  refine FL.run (i := 7) [2, 6] false (fun v_ _ => v_ = .bool true) rfl rfl rfl (by kernel_rfl) (Stable.eq _) ?_ ?_
  · intro wb1 ho_wb1
    rintro _ ⟨A_61, c_61, rfl, hc_61, hv_61⟩
    rintro _ ⟨b_65, rfl, hb_b_65, hn_b_65⟩
    exact And.intro rfl (Eff.calls (Eff.fn rfl rfl Try.call23 (by rintro _ rfl; exact Fc.valE (logs_any _ _ _ _ hv_61.rd (by rw [hL21]; decide) _ _ [⟨0, 1, 4⟩, ⟨0, 2, 0⟩, ⟨1, 5, 0⟩] (blk_rd (E := encEn) (l := [⟨0, 1, 4⟩, ⟨0, 2, 0⟩, ⟨1, 5, 0⟩]) hb_b_65 rfl) (by decide)) (bool_eq (by rw [hL21]; decide)))))
  refine FL.run (i := 8) [7] false (fun v_ _ => v_ = .bool true) rfl rfl rfl (by kernel_rfl) (Stable.eq _) ?_ ?_
  · intro wb1 ho_wb1
    rintro _ rfl
    exact And.intro rfl (Eff.reads (Yield.move rfl rfl) rfl)
  refine FL.run (i := 9) [8] false (fun v_ _ => v_ = .pointer (some ⟨b4, 0, none⟩)) rfl rfl rfl (by kernel_rfl) (Stable.eq _) ?_ ?_
  · intro wb1 ho_wb1
    rintro _ rfl
    exact And.intro rfl (Eff.reads (Yield.fieldAt (k := 0) rfl rfl Try.runUnderlying41 rfl Try.sizeOf39 rfl) rfl)
  refine FL.run (i := 10) [9, 8] false (fun v_ _ => v_ = .slice (A_24) (L24.length) (c_24)) rfl rfl rfl (by kernel_rfl) (Stable.eq _) ?_ ?_
  · intro wb1 ho_wb1
    rintro _ rfl
    rintro _ rfl
    have hb_b4 := ho_wb1.get hb_b4
    exact And.intro rfl (Eff.reads (Yield.load (v := .slice (A_24) (L24.length) (c_24)) rfl rfl Try.isAgg39 (cell_get hb_b4 rfl)) rfl)
  refine FL.run (i := 11) [10, 8] true (NwSl w37.heap.size encEn 66 L24) rfl rfl rfl (by kernel_rfl) (NwSl.stable _ _ _ _) ?_ ?_
  · intro wb1 ho_wb1
    rintro _ rfl
    rintro _ rfl
    have hv_24 := hv_24.ext ho_wb1
    exact And.intro rfl (Eff.callsSl w37.heap.size ho_wb1.size (Eff.fn rfl rfl Try.call24 (by rintro _ rfl; exact log1_any _ _ _ _ hv_24.rd (by rw [hL24]; decide))))
  refine FL.run (i := 12) [8] false (fun v_ _ => v_ = .agg #[.int .i64 (0), .int .u64 (2), .int .u64 (0)]) rfl rfl rfl (by kernel_rfl) (Stable.eq _) ?_ ?_
  · intro wb1 ho_wb1
    rintro _ rfl
    exact And.intro rfl (Eff.reads (Yield.build (cells := #[.int .i64 (0), .int .u64 (2), .int .u64 (0)]) rfl rfl (by kernel_rfl)) rfl)
  refine FL.run (i := 13) [8] false (fun v_ _ => v_ = .agg #[.int .i64 (1), .int .u64 (5), .int .u64 (0)]) rfl rfl rfl (by kernel_rfl) (Stable.eq _) ?_ ?_
  · intro wb1 ho_wb1
    rintro _ rfl
    exact And.intro rfl (Eff.reads (Yield.build (cells := #[.int .i64 (1), .int .u64 (5), .int .u64 (0)]) rfl rfl (by kernel_rfl)) rfl)
  refine FL.run (i := 14) [12, 13, 8] true (fun v_ w_ => ∃ b_, v_ = .slice (some ⟨b_, 0, none⟩) (2) (2) ∧ w_.heap[b_]? = some (.cells #[.int .i64 (0), .int .u64 (2), .int .u64 (0), .int .i64 (1), .int .u64 (5), .int .u64 (0)] 66 (0, 0)) ∧ w37.heap.size ≤ b_) rfl rfl rfl (by kernel_rfl) (Stable.blk (mk := fun b_ => .slice (some ⟨b_, 0, none⟩) (2) (2))) ?_ ?_
  · intro wb1 ho_wb1
    rintro _ rfl
    rintro _ rfl
    rintro _ rfl
    exact And.intro rfl (Eff.newSlice w37.heap.size ho_wb1.size (Eff.buildSlice (len := 2) (cs := [.int .i64 (0), .int .u64 (2), .int .u64 (0), .int .i64 (1), .int .u64 (5), .int .u64 (0)]) [.agg #[.int .i64 (0), .int .u64 (2), .int .u64 (0)], .agg #[.int .i64 (1), .int .u64 (5), .int .u64 (0)]] rfl rfl Try.runUnderlying45 Try.sizeOf66 Try.zeroValue66 rfl rfl rfl (List.forall_mem_cons.2 ⟨rfl, (List.forall_mem_cons.2 ⟨rfl, (fun _ h => nomatch h)⟩)⟩) rfl))
  refine FL.run (i := 15) [11, 14, 8] false (fun v_ _ => v_ = .bool true) rfl rfl rfl (by kernel_rfl) (Stable.eq _) ?_ ?_
  · intro wb1 ho_wb1
    rintro _ ⟨A_70, c_70, rfl, hc_70, hv_70⟩
    rintro _ ⟨b_73, rfl, hb_b_73, hn_b_73⟩
    rintro _ rfl
    exact And.intro rfl (Eff.calls (Eff.fn rfl rfl Try.call23 (by rintro _ rfl; exact Fc.valE (logs_any _ _ _ _ hv_70.rd (by rw [hL24]; decide) _ _ [⟨0, 2, 0⟩, ⟨1, 5, 0⟩] (blk_rd (E := encEn) (l := [⟨0, 2, 0⟩, ⟨1, 5, 0⟩]) hb_b_73 rfl) (by decide)) (bool_eq (by rw [hL24]; decide)))))
  refine FL.run (i := 16) [8, 15] false (fun v_ _ => v_ = .bool true) rfl rfl rfl (by kernel_rfl) (Stable.eq _) ?_ ?_
  · intro wb1 ho_wb1
    rintro _ rfl
    rintro _ rfl
    exact And.intro rfl (Eff.reads (Yield.pick_t rfl rfl rfl) rfl)
  refine FL.run (i := 17) [16] false (fun v_ _ => v_ = .bool true) rfl rfl rfl (by kernel_rfl) (Stable.eq _) ?_ ?_
  · intro wb1 ho_wb1
    rintro _ rfl
    exact And.intro rfl (Eff.reads (Yield.move rfl rfl) rfl)
  refine FL.run (i := 18) [17] false (fun v_ _ => v_ = .pointer (some ⟨b5, 0, none⟩)) rfl rfl rfl (by kernel_rfl) (Stable.eq _) ?_ ?_
  · intro wb1 ho_wb1
    rintro _ rfl
    exact And.intro rfl (Eff.reads (Yield.fieldAt (k := 0) rfl rfl Try.runUnderlying41 rfl Try.sizeOf39 rfl) rfl)
  refine FL.run (i := 19) [18, 17] false (fun v_ _ => v_ = .slice (A_26) (L26.length) (c_26)) rfl rfl rfl (by kernel_rfl) (Stable.eq _) ?_ ?_
  · intro wb1 ho_wb1
    rintro _ rfl
    rintro _ rfl
    have hb_b5 := ho_wb1.get hb_b5
    exact And.intro rfl (Eff.reads (Yield.load (v := .slice (A_26) (L26.length) (c_26)) rfl rfl Try.isAgg39 (cell_get hb_b5 rfl)) rfl)
  refine FL.run (i := 20) [19, 17] true (NwSl w37.heap.size encEn 66 L26) rfl rfl rfl (by kernel_rfl) (NwSl.stable _ _ _ _) ?_ ?_
  · intro wb1 ho_wb1
    rintro _ rfl
    rintro _ rfl
    have hv_26 := hv_26.ext ho_wb1
    exact And.intro rfl (Eff.callsSl w37.heap.size ho_wb1.size (Eff.fn rfl rfl Try.call24 (by rintro _ rfl; exact log1_any _ _ _ _ hv_26.rd (by rw [hL26]; decide))))
  refine FL.run (i := 21) [17] false (fun v_ _ => v_ = .agg #[.int .i64 (0), .int .u64 (1), .int .u64 (4)]) rfl rfl rfl (by kernel_rfl) (Stable.eq _) ?_ ?_
  · intro wb1 ho_wb1
    rintro _ rfl
    exact And.intro rfl (Eff.reads (Yield.build (cells := #[.int .i64 (0), .int .u64 (1), .int .u64 (4)]) rfl rfl (by kernel_rfl)) rfl)
  refine FL.run (i := 22) [17] false (fun v_ _ => v_ = .agg #[.int .i64 (0), .int .u64 (2), .int .u64 (0)]) rfl rfl rfl (by kernel_rfl) (Stable.eq _) ?_ ?_
  · intro wb1 ho_wb1
    rintro _ rfl
    exact And.intro rfl (Eff.reads (Yield.build (cells := #[.int .i64 (0), .int .u64 (2), .int .u64 (0)]) rfl rfl (by kernel_rfl)) rfl)
  refine FL.run (i := 23) [17] false (fun v_ _ => v_ = .agg #[.int .i64 (1), .int .u64 (5), .int .u64 (0)]) rfl rfl rfl (by kernel_rfl) (Stable.eq _) ?_ ?_
  · intro wb1 ho_wb1
    rintro _ rfl
    exact And.intro rfl (Eff.reads (Yield.build (cells := #[.int .i64 (1), .int .u64 (5), .int .u64 (0)]) rfl rfl (by kernel_rfl)) rfl)
  refine FL.run (i := 24) [21, 22, 23, 17] true (fun v_ w_ => ∃ b_, v_ = .slice (some ⟨b_, 0, none⟩) (3) (3) ∧ w_.heap[b_]? = some (.cells #[.int .i64 (0), .int .u64 (1), .int .u64 (4), .int .i64 (0), .int .u64 (2), .int .u64 (0), .int .i64 (1), .int .u64 (5), .int .u64 (0)] 66 (0, 0)) ∧ w37.heap.size ≤ b_) rfl rfl rfl (by kernel_rfl) (Stable.blk (mk := fun b_ => .slice (some ⟨b_, 0, none⟩) (3) (3))) ?_ ?_
  · intro wb1 ho_wb1
    rintro _ rfl
    rintro _ rfl
    rintro _ rfl
    rintro _ rfl
    exact And.intro rfl (Eff.newSlice w37.heap.size ho_wb1.size (Eff.buildSlice (len := 3) (cs := [.int .i64 (0), .int .u64 (1), .int .u64 (4), .int .i64 (0), .int .u64 (2), .int .u64 (0), .int .i64 (1), .int .u64 (5), .int .u64 (0)]) [.agg #[.int .i64 (0), .int .u64 (1), .int .u64 (4)], .agg #[.int .i64 (0), .int .u64 (2), .int .u64 (0)], .agg #[.int .i64 (1), .int .u64 (5), .int .u64 (0)]] rfl rfl Try.runUnderlying45 Try.sizeOf66 Try.zeroValue66 rfl rfl rfl (List.forall_mem_cons.2 ⟨rfl, (List.forall_mem_cons.2 ⟨rfl, (List.forall_mem_cons.2 ⟨rfl, (fun _ h => nomatch h)⟩)⟩)⟩) rfl))
  refine FL.run (i := 25) [20, 24, 17] false (fun v_ _ => v_ = .bool true) rfl rfl rfl (by kernel_rfl) (Stable.eq _) ?_ ?_
  · intro wb1 ho_wb1
    rintro _ ⟨A_79, c_79, rfl, hc_79, hv_79⟩
    rintro _ ⟨b_83, rfl, hb_b_83, hn_b_83⟩
    rintro _ rfl
    exact And.intro rfl (Eff.calls (Eff.fn rfl rfl Try.call23 (by rintro _ rfl; exact Fc.valE (logs_any _ _ _ _ hv_79.rd (by rw [hL26]; decide) _ _ [⟨0, 1, 4⟩, ⟨0, 2, 0⟩, ⟨1, 5, 0⟩] (blk_rd (E := encEn) (l := [⟨0, 1, 4⟩, ⟨0, 2, 0⟩, ⟨1, 5, 0⟩]) hb_b_83 rfl) (by decide)) (bool_eq (by rw [hL26]; decide)))))
  refine FL.run (i := 26) [17, 25] false (fun v_ _ => v_ = .bool true) rfl rfl rfl (by kernel_rfl) (Stable.eq _) ?_ ?_
  · intro wb1 ho_wb1
    rintro _ rfl
    rintro _ rfl
    exact And.intro rfl (Eff.reads (Yield.pick_t rfl rfl rfl) rfl)
  refine FL.run (i := 27) [26] false (fun v_ _ => v_ = .bool true) rfl rfl rfl (by kernel_rfl) (Stable.eq _) ?_ ?_
  · intro wb1 ho_wb1
    rintro _ rfl
    exact And.intro rfl (Eff.reads (Yield.move rfl rfl) rfl)
  refine FL.run (i := 28) [27] false (fun v_ _ => v_ = .pointer (some ⟨b6, 0, none⟩)) rfl rfl rfl (by kernel_rfl) (Stable.eq _) ?_ ?_
  · intro wb1 ho_wb1
    rintro _ rfl
    exact And.intro rfl (Eff.reads (Yield.fieldAt (k := 0) rfl rfl Try.runUnderlying41 rfl Try.sizeOf39 rfl) rfl)
  refine FL.run (i := 29) [28, 27] false (fun v_ _ => v_ = .slice (some ad5) (L29.length) (c_29)) rfl rfl rfl (by kernel_rfl) (Stable.eq _) ?_ ?_
  · intro wb1 ho_wb1
    rintro _ rfl
    rintro _ rfl
    have hb_b6 := ho_wb1.get hb_b6
    exact And.intro rfl (Eff.reads (Yield.load (v := .slice (some ad5) (L29.length) (c_29)) rfl rfl Try.isAgg39 (cell_get hb_b6 rfl)) rfl)
  refine FL.run (i := 30) [29, 27] false (fun v_ _ => v_ = .int .i64 (L29.length)) rfl rfl rfl (by kernel_rfl) (Stable.eq _) ?_ ?_
  · intro wb1 ho_wb1
    rintro _ rfl
    rintro _ rfl
    exact And.intro rfl (Eff.reads (Yield.lenSlice rfl rfl Try.runUnderlying39) rfl)
  refine FL.run (i := 31) [30, 27] false (fun v_ _ => v_ = .bool true) rfl rfl rfl (by kernel_rfl) (Stable.eq _) ?_ ?_
  · intro wb1 ho_wb1
    rintro _ rfl
    rintro _ rfl
    exact And.intro rfl (Eff.reads (Yield.ar rfl rfl rfl rfl (bool_true (by rw [hL29]; decide))) rfl)
  refine FL.run (i := 32) [27, 31] false (fun v_ _ => v_ = .bool true) rfl rfl rfl (by kernel_rfl) (Stable.eq _) ?_ ?_
  · intro wb1 ho_wb1
    rintro _ rfl
    rintro _ rfl
    exact And.intro rfl (Eff.reads (Yield.pick_t rfl rfl rfl) rfl)
  refine FL.run (i := 33) [32] false (fun v_ _ => v_ = .bool true) rfl rfl rfl (by kernel_rfl) (Stable.eq _) ?_ ?_
  · intro wb1 ho_wb1
    rintro _ rfl
    exact And.intro rfl (Eff.reads (Yield.move rfl rfl) rfl)
  refine FL.run (i := 34) [33] false (fun v_ _ => v_ = .pointer (some ⟨b6, 0, none⟩)) rfl rfl rfl (by kernel_rfl) (Stable.eq _) ?_ ?_
  · intro wb1 ho_wb1
    rintro _ rfl
    exact And.intro rfl (Eff.reads (Yield.fieldAt (k := 0) rfl rfl Try.runUnderlying41 rfl Try.sizeOf39 rfl) rfl)
  refine FL.run (i := 35) [34, 33] false (fun v_ _ => v_ = .slice (some ad5) (L29.length) (c_29)) rfl rfl rfl (by kernel_rfl) (Stable.eq _) ?_ ?_
  · intro wb1 ho_wb1
    rintro _ rfl
    rintro _ rfl
    have hb_b6 := ho_wb1.get hb_b6
    exact And.intro rfl (Eff.reads (Yield.load (v := .slice (some ad5) (L29.length) (c_29)) rfl rfl Try.isAgg39 (cell_get hb_b6 rfl)) rfl)
  refine FL.run (i := 36) [35, 33] false (fun v_ _ => v_ = .pointer (some ((ad5).add (1 * 3)))) rfl rfl rfl (by kernel_rfl) (Stable.eq _) ?_ ?_
  · intro wb1 ho_wb1
    rintro _ rfl
    rintro _ rfl
    exact And.intro rfl (Eff.reads (Yield.indexNat 1 rfl rfl rfl Try.runUnderlying39 Try.sizeOf51 (by rw [hL29]; decide)) rfl)
  refine FL.run (i := 37) [36, 33] false (fun v_ _ => v_ = .pointer (some (((ad5).add (1 * 3)).add 2))) rfl rfl rfl (by kernel_rfl) (Stable.eq _) ?_ ?_
  · intro wb1 ho_wb1
    rintro _ rfl
    rintro _ rfl
    exact And.intro rfl (Eff.reads (Yield.fieldAddr rfl rfl Try.runUnderlying51 rfl Try.sizeOf49) rfl)
  refine FL.run (i := 38) [37, 33] false (fun v_ _ => v_ = .int .u64 ((kX.t.toNat : Int))) rfl rfl rfl (by kernel_rfl) (Stable.eq _) ?_ ?_
  · intro wb1 ho_wb1
    rintro _ rfl
    rintro _ rfl
    have hv_29 := hv_29.ext ho_wb1
    exact And.intro rfl (Eff.reads (Yield.load (v := .int .u64 ((kX.t.toNat : Int))) rfl rfl Try.isAgg49 (Rd.at (hv_29.rd) hx5 2 _ rfl)) rfl)
  refine FL.run (i := 39) [38, 33] false (fun v_ _ => v_ = .bool true) rfl rfl rfl (by kernel_rfl) (Stable.eq _) ?_ ?_
  · intro wb1 ho_wb1
    rintro _ rfl
    rintro _ rfl
    exact And.intro rfl (Eff.reads (Yield.ar rfl rfl rfl rfl (bool_true (by decide))) rfl)
  refine FL.run (i := 40) [33, 39] false (fun v_ _ => v_ = .bool true) rfl rfl rfl (by kernel_rfl) (Stable.eq _) ?_ ?_
  · intro wb1 ho_wb1
    rintro _ rfl
    rintro _ rfl
    exact And.intro rfl (Eff.reads (Yield.pick_t rfl rfl rfl) rfl)
  refine FL.run (i := 41) [40] false (fun v_ _ => v_ = .bool true) rfl rfl rfl (by kernel_rfl) (Stable.eq _) ?_ ?_
  · intro wb1 ho_wb1
    rintro _ rfl
    exact And.intro rfl (Eff.reads (Yield.move rfl rfl) rfl)
  refine FL.run (i := 42) [41] false (fun v_ _ => v_ = .pointer (some ⟨b7, 0, none⟩)) rfl rfl rfl (by kernel_rfl) (Stable.eq _) ?_ ?_
  · intro wb1 ho_wb1
    rintro _ rfl
    exact And.intro rfl (Eff.reads (Yield.fieldAt (k := 0) rfl rfl Try.runUnderlying41 rfl Try.sizeOf39 rfl) rfl)
  refine FL.run (i := 43) [42, 41] false (fun v_ _ => v_ = .slice (A_32) (L32.length) (c_32)) rfl rfl rfl (by kernel_rfl) (Stable.eq _) ?_ ?_
  · intro wb1 ho_wb1
    rintro _ rfl
    rintro _ rfl
    have hb_b7 := ho_wb1.get hb_b7
    exact And.intro rfl (Eff.reads (Yield.load (v := .slice (A_32) (L32.length) (c_32)) rfl rfl Try.isAgg39 (cell_get hb_b7 rfl)) rfl)
  refine FL.run (i := 44) [43, 41] false (fun v_ _ => v_ = .int .i64 (L32.length)) rfl rfl rfl (by kernel_rfl) (Stable.eq _) ?_ ?_
  · intro wb1 ho_wb1
    rintro _ rfl
    rintro _ rfl
    exact And.intro rfl (Eff.reads (Yield.lenSlice rfl rfl Try.runUnderlying39) rfl)
  refine FL.run (i := 45) [44, 41] false (fun v_ _ => v_ = .bool true) rfl rfl rfl (by kernel_rfl) (Stable.eq _) ?_ ?_
  · intro wb1 ho_wb1
    rintro _ rfl
    rintro _ rfl
    exact And.intro rfl (Eff.reads (Yield.ar rfl rfl rfl rfl (bool_true (by rw [hL32]; decide))) rfl)
  refine FL.run (i := 46) [41, 45] false (fun v_ _ => v_ = .bool true) rfl rfl rfl (by kernel_rfl) (Stable.eq _) ?_ ?_
  · intro wb1 ho_wb1
    rintro _ rfl
    rintro _ rfl
    exact And.intro rfl (Eff.reads (Yield.pick_t rfl rfl rfl) rfl)
  refine FL.run (i := 47) [46] false (fun v_ _ => v_ = .bool true) rfl rfl rfl (by kernel_rfl) (Stable.eq _) ?_ ?_
  · intro wb1 ho_wb1
    rintro _ rfl
    exact And.intro rfl (Eff.reads (Yield.move rfl rfl) rfl)
  refine FL.run (i := 48) [47] false (fun v_ _ => v_ = .pointer (some ⟨b9, 0, none⟩)) rfl rfl rfl (by kernel_rfl) (Stable.eq _) ?_ ?_
  · intro wb1 ho_wb1
    rintro _ rfl
    exact And.intro rfl (Eff.reads (Yield.fieldAt (k := 0) rfl rfl Try.runUnderlying41 rfl Try.sizeOf39 rfl) rfl)
  refine FL.run (i := 49) [48, 47] false (fun v_ _ => v_ = .slice (A_40) (L40.length) (c_40)) rfl rfl rfl (by kernel_rfl) (Stable.eq _) ?_ ?_
  · intro wb1 ho_wb1
    rintro _ rfl
    rintro _ rfl
    have hb_b9 := ho_wb1.get hb_b9
    exact And.intro rfl (Eff.reads (Yield.load (v := .slice (A_40) (L40.length) (c_40)) rfl rfl Try.isAgg39 (cell_get hb_b9 rfl)) rfl)
  refine FL.run (i := 50) [49, 47] true (NwSl w37.heap.size encEn 66 L40) rfl rfl rfl (by kernel_rfl) (NwSl.stable _ _ _ _) ?_ ?_
  · intro wb1 ho_wb1
    rintro _ rfl
    rintro _ rfl
    have hv_40 := hv_40.ext ho_wb1
    exact And.intro rfl (Eff.callsSl w37.heap.size ho_wb1.size (Eff.fn rfl rfl Try.call24 (by rintro _ rfl; exact log1_any _ _ _ _ hv_40.rd (by rw [hL40]; decide))))
  refine FL.run (i := 51) [47] false (fun v_ _ => v_ = .agg #[.int .i64 (0), .int .u64 (1), .int .u64 (4)]) rfl rfl rfl (by kernel_rfl) (Stable.eq _) ?_ ?_
  · intro wb1 ho_wb1
    rintro _ rfl
    exact And.intro rfl (Eff.reads (Yield.build (cells := #[.int .i64 (0), .int .u64 (1), .int .u64 (4)]) rfl rfl (by kernel_rfl)) rfl)
  refine FL.run (i := 52) [47] false (fun v_ _ => v_ = .agg #[.int .i64 (0), .int .u64 (3), .int .u64 (1)]) rfl rfl rfl (by kernel_rfl) (Stable.eq _) ?_ ?_
  · intro wb1 ho_wb1
    rintro _ rfl
    exact And.intro rfl (Eff.reads (Yield.build (cells := #[.int .i64 (0), .int .u64 (3), .int .u64 (1)]) rfl rfl (by kernel_rfl)) rfl)
  refine FL.run (i := 53) [47] false (fun v_ _ => v_ = .agg #[.int .i64 (1), .int .u64 (5), .int .u64 (0)]) rfl rfl rfl (by kernel_rfl) (Stable.eq _) ?_ ?_
  · intro wb1 ho_wb1
    rintro _ rfl
    exact And.intro rfl (Eff.reads (Yield.build (cells := #[.int .i64 (1), .int .u64 (5), .int .u64 (0)]) rfl rfl (by kernel_rfl)) rfl)
  refine FL.run (i := 54) [47] false (fun v_ _ => v_ = .agg #[.int .i64 (2), .int .u64 (1), .int .u64 (1)]) rfl rfl rfl (by kernel_rfl) (Stable.eq _) ?_ ?_
  · intro wb1 ho_wb1
    rintro _ rfl
    exact And.intro rfl (Eff.reads (Yield.build (cells := #[.int .i64 (2), .int .u64 (1), .int .u64 (1)]) rfl rfl (by kernel_rfl)) rfl)
  refine FL.run (i := 55) [51, 52, 53, 54, 47] true (fun v_ w_ => ∃ b_, v_ = .slice (some ⟨b_, 0, none⟩) (4) (4) ∧ w_.heap[b_]? = some (.cells #[.int .i64 (0), .int .u64 (1), .int .u64 (4), .int .i64 (0), .int .u64 (3), .int .u64 (1), .int .i64 (1), .int .u64 (5), .int .u64 (0), .int .i64 (2), .int .u64 (1), .int .u64 (1)] 66 (0, 0)) ∧ w37.heap.size ≤ b_) rfl rfl rfl (by kernel_rfl) (Stable.blk (mk := fun b_ => .slice (some ⟨b_, 0, none⟩) (4) (4))) ?_ ?_
  · intro wb1 ho_wb1
    rintro _ rfl
    rintro _ rfl
    rintro _ rfl
    rintro _ rfl
    rintro _ rfl
    exact And.intro rfl (Eff.newSlice w37.heap.size ho_wb1.size (Eff.buildSlice (len := 4) (cs := [.int .i64 (0), .int .u64 (1), .int .u64 (4), .int .i64 (0), .int .u64 (3), .int .u64 (1), .int .i64 (1), .int .u64 (5), .int .u64 (0), .int .i64 (2), .int .u64 (1), .int .u64 (1)]) [.agg #[.int .i64 (0), .int .u64 (1), .int .u64 (4)], .agg #[.int .i64 (0), .int .u64 (3), .int .u64 (1)], .agg #[.int .i64 (1), .int .u64 (5), .int .u64 (0)], .agg #[.int .i64 (2), .int .u64 (1), .int .u64 (1)]] rfl rfl Try.runUnderlying45 Try.sizeOf66 Try.zeroValue66 rfl rfl rfl (List.forall_mem_cons.2 ⟨rfl, (List.forall_mem_cons.2 ⟨rfl, (List.forall_mem_cons.2 ⟨rfl, (List.forall_mem_cons.2 ⟨rfl, (fun _ h => nomatch h)⟩)⟩)⟩)⟩) rfl))
  refine FL.run (i := 56) [50, 55, 47] false (fun v_ _ => v_ = .bool true) rfl rfl rfl (by kernel_rfl) (Stable.eq _) ?_ ?_
  · intro wb1 ho_wb1
    rintro _ ⟨A_109, c_109, rfl, hc_109, hv_109⟩
    rintro _ ⟨b_114, rfl, hb_b_114, hn_b_114⟩
    rintro _ rfl
    exact And.intro rfl (Eff.calls (Eff.fn rfl rfl Try.call23 (by rintro _ rfl; exact Fc.valE (logs_any _ _ _ _ hv_109.rd (by rw [hL40]; decide) _ _ [⟨0, 1, 4⟩, ⟨0, 3, 1⟩, ⟨1, 5, 0⟩, ⟨2, 1, 1⟩] (blk_rd (E := encEn) (l := [⟨0, 1, 4⟩, ⟨0, 3, 1⟩, ⟨1, 5, 0⟩, ⟨2, 1, 1⟩]) hb_b_114 rfl) (by decide)) (bool_eq (by rw [hL40]; decide)))))
  refine FL.run (i := 57) [47, 56] false (fun v_ _ => v_ = .bool true) rfl rfl rfl (by kernel_rfl) (Stable.eq _) ?_ ?_
  · intro wb1 ho_wb1
    rintro _ rfl
    rintro _ rfl
    exact And.intro rfl (Eff.reads (Yield.pick_t rfl rfl rfl) rfl)
  refine FL.run (i := 58) [57] false (fun v_ _ => v_ = .bool true) rfl rfl rfl (by kernel_rfl) (Stable.eq _) ?_ ?_
  · intro wb1 ho_wb1
    rintro _ rfl
    exact And.intro rfl (Eff.reads (Yield.move rfl rfl) rfl)
  refine FL.run (i := 59) [58] false (fun v_ _ => v_ = .agg #[.slice (some ⟨b10, 0, none⟩) (2) (2)]) rfl rfl rfl (by kernel_rfl) (Stable.eq _) ?_ ?_
  · intro wb1 ho_wb1
    rintro _ rfl
    have hb_b11 := ho_wb1.get hb_b11
    exact And.intro rfl (Eff.reads (Yield.loadAgg (cs := [.slice (some ⟨b10, 0, none⟩) (2) (2)]) rfl rfl Try.isAgg41 Try.sizeOf41 (blk_cells hb_b11 rfl)) rfl)
  refine FL.run (i := 60) [59, 58] false (fun v_ _ => v_ = .bool false) rfl rfl rfl (by kernel_rfl) (Stable.eq _) ?_ ?_
  · intro wb1 ho_wb1
    rintro _ rfl
    rintro _ rfl
    have hb_b10 := ho_wb1.get hb_b10
    exact And.intro rfl (Eff.calls (Eff.fn rfl rfl Try.call21 (by rintro _ rfl; exact k_goodB _ _ _ (blk_rd (E := encEn) (l := kB) hb_b10 rfl))))
  refine FL.run (i := 61) [60, 58] false (fun v_ _ => v_ = .bool true) rfl rfl rfl (by kernel_rfl) (Stable.eq _) ?_ ?_
  · intro wb1 ho_wb1
    rintro _ rfl
    rintro _ rfl
    exact And.intro rfl (Eff.reads (Yield.not rfl rfl) rfl)
  refine FL.run (i := 62) [58, 61] false (fun v_ _ => v_ = .bool true) rfl rfl rfl (by kernel_rfl) (Stable.eq _) ?_ ?_
  · intro wb1 ho_wb1
    rintro _ rfl
    rintro _ rfl
    exact And.intro rfl (Eff.reads (Yield.pick_t rfl rfl rfl) rfl)
  refine FL.run (i := 63) [62] false (fun v_ _ => v_ = .bool true) rfl rfl rfl (by kernel_rfl) (Stable.eq _) ?_ ?_
  · intro wb1 ho_wb1
    rintro _ rfl
    exact And.intro rfl (Eff.reads (Yield.move rfl rfl) rfl)
  refine FL.run (i := 64) [63] false (fun v_ _ => v_ = .agg #[.slice (some ⟨b10, 0, none⟩) (2) (2)]) rfl rfl rfl (by kernel_rfl) (Stable.eq _) ?_ ?_
  · intro wb1 ho_wb1
    rintro _ rfl
    have hb_b11 := ho_wb1.get hb_b11
    exact And.intro rfl (Eff.reads (Yield.loadAgg (cs := [.slice (some ⟨b10, 0, none⟩) (2) (2)]) rfl rfl Try.isAgg41 Try.sizeOf41 (blk_cells hb_b11 rfl)) rfl)
  refine FL.run (i := 65) [64, 63] true (NwSl w37.heap.size encB 5 Lq) rfl rfl rfl (by kernel_rfl) (NwSl.stable _ _ _ _) ?_ ?_
  · intro wb1 ho_wb1
    rintro _ rfl
    rintro _ rfl
    have hb_b10 := ho_wb1.get hb_b10
    exact And.intro rfl (Eff.callsSl w37.heap.size ho_wb1.size (Eff.fn rfl rfl Try.call33 (by rintro _ rfl; exact k_putB _ _ _ (blk_rd (E := encEn) (l := kB) hb_b10 rfl) Lq hLq)))
  refine FL.run (i := 66) [65, 63] false (fun v_ _ => v_ = .int .i64 (Lq.length)) rfl rfl rfl (by kernel_rfl) (Stable.eq _) ?_ ?_
  · intro wb1 ho_wb1
    rintro _ ⟨A_124, c_124, rfl, hc_124, hv_124⟩
    rintro _ rfl
    exact And.intro rfl (Eff.reads (Yield.lenSlice rfl rfl Try.runUnderlying33) rfl)
  refine FL.run (i := 67) [66, 63] false (fun v_ _ => v_ = .bool true) rfl rfl rfl (by kernel_rfl) (Stable.eq _) ?_ ?_
  · intro wb1 ho_wb1
    rintro _ rfl
    rintro _ rfl
    exact And.intro rfl (Eff.reads (Yield.ar rfl rfl rfl rfl (bool_true (by rw [hLq]; decide +kernel))) rfl)
  refine FL.run (i := 68) [63, 67] false (fun v_ _ => v_ = .bool true) rfl rfl rfl (by kernel_rfl) (Stable.eq _) ?_ ?_
  · intro wb1 ho_wb1
    rintro _ rfl
    rintro _ rfl
    exact And.intro rfl (Eff.reads (Yield.pick_t rfl rfl rfl) rfl)
  refine FL.run (i := 69) [68] false (fun v_ _ => v_ = .bool true) rfl rfl rfl (by kernel_rfl) (Stable.eq _) ?_ ?_
  · intro wb1 ho_wb1
    rintro _ rfl
    exact And.intro rfl (Eff.reads (Yield.move rfl rfl) rfl)
  refine FL.run (i := 70) [69] false (fun v_ _ => v_ = .agg #[.slice (some ⟨b10, 0, none⟩) (2) (2)]) rfl rfl rfl (by kernel_rfl) (Stable.eq _) ?_ ?_
  · intro wb1 ho_wb1
    rintro _ rfl
    have hb_b11 := ho_wb1.get hb_b11
    exact And.intro rfl (Eff.reads (Yield.loadAgg (cs := [.slice (some ⟨b10, 0, none⟩) (2) (2)]) rfl rfl Try.isAgg41 Try.sizeOf41 (blk_cells hb_b11 rfl)) rfl)
  refine FL.run (i := 71) [70, 69] true (NwLg w37.heap.size encEn 51 Lg) rfl rfl rfl (by kernel_rfl) (NwLg.stable _ _ _ _) ?_ ?_
  · intro wb1 ho_wb1
    rintro _ rfl
    rintro _ rfl
    have hb_b10 := ho_wb1.get hb_b10
    exact And.intro rfl (Eff.callsLg w37.heap.size ho_wb1.size (Eff.fn rfl rfl Try.call22 (by rintro _ rfl; exact k_purgeB _ _ _ (blk_rd (E := encEn) (l := kB) hb_b10 rfl) Lg hLg)))
  refine FL.run (i := 72) [71, 69] false (NwSl w37.heap.size encEn 51 Lg) rfl rfl rfl (by kernel_rfl) (NwSl.stable _ _ _ _) ?_ ?_
  · intro wb1 ho_wb1
    rintro _ ⟨A_130, c_130, rfl, hc_130, hv_130⟩
    rintro _ rfl
    exact And.intro rfl (Eff.reads (Yield.field (v := .slice (A_130) (Lg.length) (c_130)) rfl rfl Try.runUnderlying41 rfl Try.isAgg39 rfl) ⟨_, _, rfl, hc_130, hv_130⟩)
  refine FL.run (i := 73) [72, 69] false (fun v_ _ => v_ = .int .i64 (Lg.length)) rfl rfl rfl (by kernel_rfl) (Stable.eq _) ?_ ?_
  · intro wb1 ho_wb1
    rintro _ ⟨A_131, c_131, rfl, hc_131, hv_131⟩
    rintro _ rfl
    exact And.intro rfl (Eff.reads (Yield.lenSlice rfl rfl Try.runUnderlying39) rfl)
  refine FL.run (i := 74) [73, 69] false (fun v_ _ => v_ = .bool true) rfl rfl rfl (by kernel_rfl) (Stable.eq _) ?_ ?_
  · intro wb1 ho_wb1
    rintro _ rfl
    rintro _ rfl
    exact And.intro rfl (Eff.reads (Yield.ar rfl rfl rfl rfl (bool_true (by rw [hLg]; decide))) rfl)
  refine FL.run (i := 75) [69, 74] false (fun v_ _ => v_ = .bool true) rfl rfl rfl (by kernel_rfl) (Stable.eq _) ?_ ?_
  · intro wb1 ho_wb1
    rintro _ rfl
    rintro _ rfl
    exact And.intro rfl (Eff.reads (Yield.pick_t rfl rfl rfl) rfl)
  refine FL.run (i := 76) [75] false (fun v_ _ => v_ = .bool true) rfl rfl rfl (by kernel_rfl) (Stable.eq _) ?_ ?_
  · intro wb1 ho_wb1
    rintro _ rfl
    exact And.intro rfl (Eff.reads (Yield.move rfl rfl) rfl)
  refine FL.run (i := 77) [76] false (fun v_ _ => v_ = .agg #[.slice (some ⟨b1, 0, none⟩) (3) (3)]) rfl rfl rfl (by kernel_rfl) (Stable.eq _) ?_ ?_
  · intro wb1 ho_wb1
    rintro _ rfl
    have hb_b2 := ho_wb1.get hb_b2
    exact And.intro rfl (Eff.reads (Yield.loadAgg (cs := [.slice (some ⟨b1, 0, none⟩) (3) (3)]) rfl rfl Try.isAgg41 Try.sizeOf41 (blk_cells hb_b2 rfl)) rfl)
  refine FL.run (i := 78) [76] false (fun v_ _ => v_ = .agg #[.slice (some ⟨b10, 0, none⟩) (2) (2)]) rfl rfl rfl (by kernel_rfl) (Stable.eq _) ?_ ?_
  · intro wb1 ho_wb1
    rintro _ rfl
    have hb_b11 := ho_wb1.get hb_b11
    exact And.intro rfl (Eff.reads (Yield.loadAgg (cs := [.slice (some ⟨b10, 0, none⟩) (2) (2)]) rfl rfl Try.isAgg41 Try.sizeOf41 (blk_cells hb_b11 rfl)) rfl)
  refine FL.run (i := 79) [77, 78, 76] true (NwLg w37.heap.size encEn 51 Lj) rfl rfl rfl (by kernel_rfl) (NwLg.stable _ _ _ _) ?_ ?_
  · intro wb1 ho_wb1
    rintro _ rfl
    rintro _ rfl
    rintro _ rfl
    have hb_b1 := ho_wb1.get hb_b1
    have hb_b10 := ho_wb1.get hb_b10
    exact And.intro rfl (Eff.callsLg w37.heap.size ho_wb1.size (Eff.fn rfl rfl Try.call25 (by rintro _ rfl; exact k_joinB _ _ _ (blk_rd (E := encEn) (l := kK) hb_b1 rfl) _ _ (blk_rd (E := encEn) (l := kB) hb_b10 rfl) Lj hLj)))
  refine FL.run (i := 80) [79, 76] false (NwSl w37.heap.size encEn 51 Lj) rfl rfl rfl (by kernel_rfl) (NwSl.stable _ _ _ _) ?_ ?_
  · intro wb1 ho_wb1
    rintro _ ⟨A_138, c_138, rfl, hc_138, hv_138⟩
    rintro _ rfl
    exact And.intro rfl (Eff.reads (Yield.field (v := .slice (A_138) (Lj.length) (c_138)) rfl rfl Try.runUnderlying41 rfl Try.isAgg39 rfl) ⟨_, _, rfl, hc_138, hv_138⟩)
  refine FL.run (i := 81) [80, 76] false (fun v_ _ => v_ = .int .i64 (Lj.length)) rfl rfl rfl (by kernel_rfl) (Stable.eq _) ?_ ?_
  · intro wb1 ho_wb1
    rintro _ ⟨A_139, c_139, rfl, hc_139, hv_139⟩
    rintro _ rfl
    exact And.intro rfl (Eff.reads (Yield.lenSlice rfl rfl Try.runUnderlying39) rfl)
  refine FL.run (i := 82) [81, 76] false (fun v_ _ => v_ = .bool true) rfl rfl rfl (by kernel_rfl) (Stable.eq _) ?_ ?_
  · intro wb1 ho_wb1
    rintro _ rfl
    rintro _ rfl
    exact And.intro rfl (Eff.reads (Yield.ar rfl rfl rfl rfl (bool_true (by rw [hLj]; decide))) rfl)
  refine FL.run (i := 83) [76, 82] false (fun v_ _ => v_ = .bool true) rfl rfl rfl (by kernel_rfl) (Stable.eq _) ?_ ?_
  · intro wb1 ho_wb1
    rintro _ rfl
    rintro _ rfl
    exact And.intro rfl (Eff.reads (Yield.pick_t rfl rfl rfl) rfl)
  refine FL.run (i := 84) [83] false (fun v_ _ => v_ = .bool true) rfl rfl rfl (by kernel_rfl) (Stable.eq _) ?_ ?_
  · intro wb1 ho_wb1
    rintro _ rfl
    exact And.intro rfl (Eff.reads (Yield.move rfl rfl) rfl)
  refine FL.run (i := 85) [84] false (fun v_ _ => v_ = .bool true) rfl rfl rfl (by kernel_rfl) (Stable.eq _) ?_ ?_
  · intro wb1 ho_wb1
    rintro _ rfl
    exact And.intro rfl (Eff.reads (Yield.move rfl rfl) rfl)
  refine FL.run (i := 86) [84, 85] false (fun v_ _ => v_ = .bool true) rfl rfl rfl (by kernel_rfl) (Stable.eq _) ?_ ?_
  · intro wb1 ho_wb1
    rintro _ rfl
    rintro _ rfl
    exact And.intro rfl (Eff.reads (Yield.pick_t rfl rfl rfl) rfl)
  refine FL.run (i := 87) [86] false (fun v_ _ => v_ = .bool true) rfl rfl rfl (by kernel_rfl) (Stable.eq _) ?_ ?_
  · intro wb1 ho_wb1
    rintro _ rfl
    exact And.intro rfl (Eff.reads (Yield.move rfl rfl) rfl)
  refine FL.run (i := 88) [87] false (fun v_ _ => v_ = .pointer (some ⟨b12, 0, none⟩)) rfl rfl rfl (by kernel_rfl) (Stable.eq _) ?_ ?_
  · intro wb1 ho_wb1
    rintro _ rfl
    exact And.intro rfl (Eff.reads (Yield.fieldAt (k := 0) rfl rfl Try.runUnderlying41 rfl Try.sizeOf39 rfl) rfl)
  refine FL.run (i := 89) [88, 87] false (fun v_ _ => v_ = .slice (A_48) ((kK : List En).length) (c_48)) rfl rfl rfl (by kernel_rfl) (Stable.eq _) ?_ ?_
  · intro wb1 ho_wb1
    rintro _ rfl
    rintro _ rfl
    have hb_b12 := ho_wb1.get hb_b12
    exact And.intro rfl (Eff.reads (Yield.load (v := .slice (A_48) ((kK : List En).length) (c_48)) rfl rfl Try.isAgg39 (cell_get hb_b12 rfl)) rfl)
  refine FL.run (i := 90) [89, 87] true (NwSl w37.heap.size encEn 66 kK) rfl rfl rfl (by kernel_rfl) (NwSl.stable _ _ _ _) ?_ ?_
  · intro wb1 ho_wb1
    rintro _ rfl
    rintro _ rfl
    have hv_48 := hv_48.ext ho_wb1
    exact And.intro rfl (Eff.callsSl w37.heap.size ho_wb1.size (Eff.fn rfl rfl Try.call24 (by rintro _ rfl; exact log1_any _ _ _ _ hv_48.rd (by decide))))
  refine FL.run (i := 91) [87] false (fun v_ _ => v_ = .pointer (some ⟨b2, 0, none⟩)) rfl rfl rfl (by kernel_rfl) (Stable.eq _) ?_ ?_
  · intro wb1 ho_wb1
    rintro _ rfl
    exact And.intro rfl (Eff.reads (Yield.fieldAt (k := 0) rfl rfl Try.runUnderlying41 rfl Try.sizeOf39 rfl) rfl)
  refine FL.run (i := 92) [91, 87] false (fun v_ _ => v_ = .slice (some ⟨b1, 0, none⟩) (3) (3)) rfl rfl rfl (by kernel_rfl) (Stable.eq _) ?_ ?_
  · intro wb1 ho_wb1
    rintro _ rfl
    rintro _ rfl
    have hb_b2 := ho_wb1.get hb_b2
    exact And.intro rfl (Eff.reads (Yield.load (v := .slice (some ⟨b1, 0, none⟩) (3) (3)) rfl rfl Try.isAgg39 (cell_get hb_b2 rfl)) rfl)
  refine FL.fin rfl [87, 90, 92] ?_
  intro w38 ho_w38
  rintro _ rfl
  rintro _ ⟨A_149, c_149, rfl, hc_149, hv_149⟩
  rintro _ rfl
  intro _
  show WL _ _ _ _ _ _ _ _
  replace hb_b1 := ho_w38.get hb_b1
  replace hb_b2 := ho_w38.get hb_b2
  replace hb_b3 := ho_w38.get hb_b3
  replace hb_b4 := ho_w38.get hb_b4
  replace hb_b5 := ho_w38.get hb_b5
  replace hb_b6 := ho_w38.get hb_b6
  replace hb_b7 := ho_w38.get hb_b7
  replace hb_b8 := ho_w38.get hb_b8
  replace hb_b9 := ho_w38.get hb_b9
  replace hb_b10 := ho_w38.get hb_b10
  replace hb_b11 := ho_w38.get hb_b11
  replace hb_b12 := ho_w38.get hb_b12
  replace hb_b13 := ho_w38.get hb_b13
  replace hb_b14 := ho_w38.get hb_b14
  have hsz_w38 := ho_w38.size
  replace hO := hO.ext ho_w38
  replace hv_21 := hv_21.ext ho_w38
  replace hv_23 := hv_23.ext ho_w38
  replace hv_24 := hv_24.ext ho_w38
  replace hv_26 := hv_26.ext ho_w38
  replace hv_29 := hv_29.ext ho_w38
  replace hv_32 := hv_32.ext ho_w38
  replace hv_40 := hv_40.ext ho_w38
  replace hv_47 := hv_47.ext ho_w38
  replace hv_48 := hv_48.ext ho_w38
  replace hv_p := hv_p.ext ho_w38
  replace hv_56 := hv_56.ext ho_w38
  have hlr_hv_21_hv_152 := fun q hq => Own.lt (hv_21).1 (b := q) hq
  have hlr_hv_23_hv_152 := fun q hq => Own.lt (hv_23).1 (b := q) hq
  have hlr_hv_24_hv_152 := fun q hq => Own.lt (hv_24).1 (b := q) hq
  have hlr_hv_26_hv_152 := fun q hq => Own.lt (hv_26).1 (b := q) hq
  have hlr_hv_29_hv_152 := fun q hq => Own.lt (hv_29).1 (b := q) hq
  have hlr_hv_32_hv_152 := fun q hq => Own.lt (hv_32).1 (b := q) hq
  have hlr_hv_40_hv_152 := fun q hq => Own.lt (hv_40).1 (b := q) hq
  have hlr_hv_47_hv_152 := fun q hq => Own.lt (hv_47).1 (b := q) hq
  have hlr_hv_48_hv_152 := fun q hq => Own.lt (hv_48).1 (b := q) hq
  have hlr_hv_p_hv_152 := fun q hq => Own.lt (hv_p).1 (b := q) hq
  have hlr_hv_56_hv_152 := fun q hq => Own.lt (hv_56).1 (b := q) hq
  have hlr_hv_149_hv_152 := fun q hq => Own.lt (hv_149).1 (b := q) hq
  refine WL.eff _ rfl rfl (Eff.fn rfl rfl Try.call24 (by rintro _ rfl; exact log1_any _ _ _ kK (blk_rd (E := encEn) (l := kK) hb_b1 rfl) (by decide))) ?_
  have hlt_b1_w38 : b1 < w38.heap.size := blk_lt hb_b1
  have hlt_b2_w38 : b2 < w38.heap.size := blk_lt hb_b2
  have hlt_b3_w38 : b3 < w38.heap.size := blk_lt hb_b3
  have hlt_b4_w38 : b4 < w38.heap.size := blk_lt hb_b4
  have hlt_b5_w38 : b5 < w38.heap.size := blk_lt hb_b5
  have hlt_b6_w38 : b6 < w38.heap.size := blk_lt hb_b6
  have hlt_b7_w38 : b7 < w38.heap.size := blk_lt hb_b7
  have hlt_b8_w38 : b8 < w38.heap.size := blk_lt hb_b8
  have hlt_b9_w38 : b9 < w38.heap.size := blk_lt hb_b9
  have hlt_b10_w38 : b10 < w38.heap.size := blk_lt hb_b10
  have hlt_b11_w38 : b11 < w38.heap.size := blk_lt hb_b11
  have hlt_b12_w38 : b12 < w38.heap.size := blk_lt hb_b12
  have hlt_b13_w38 : b13 < w38.heap.size := blk_lt hb_b13
  have hlt_b14_w38 : b14 < w38.heap.size := blk_lt hb_b14
  have hz_w38 := hO.size
  rintro _ w39 ⟨ho_w39, ⟨A_152, c_152, rfl, hc_152, hv_152⟩⟩
  replace hb_b1 := ho_w39.get hb_b1
  replace hb_b2 := ho_w39.get hb_b2
  replace hb_b3 := ho_w39.get hb_b3
  replace hb_b4 := ho_w39.get hb_b4
  replace hb_b5 := ho_w39.get hb_b5
  replace hb_b6 := ho_w39.get hb_b6
  replace hb_b7 := ho_w39.get hb_b7
  replace hb_b8 := ho_w39.get hb_b8
  replace hb_b9 := ho_w39.get hb_b9
  replace hb_b10 := ho_w39.get hb_b10
  replace hb_b11 := ho_w39.get hb_b11
  replace hb_b12 := ho_w39.get hb_b12
  replace hb_b13 := ho_w39.get hb_b13
  replace hb_b14 := ho_w39.get hb_b14
  have hsz_w39 := ho_w39.size
  replace hO := hO.ext ho_w39
  replace hv_21 := hv_21.ext ho_w39
  replace hv_23 := hv_23.ext ho_w39
  replace hv_24 := hv_24.ext ho_w39
  replace hv_26 := hv_26.ext ho_w39
  replace hv_29 := hv_29.ext ho_w39
  replace hv_32 := hv_32.ext ho_w39
  replace hv_40 := hv_40.ext ho_w39
  replace hv_47 := hv_47.ext ho_w39
  replace hv_48 := hv_48.ext ho_w39
  replace hv_p := hv_p.ext ho_w39
  replace hv_56 := hv_56.ext ho_w39
  replace hv_149 := hv_149.ext ho_w39
  refine WL.eff _ rfl rfl (Eff.fn rfl rfl Try.call23 (by rintro _ rfl; exact k_logs _ _ _ hv_149.rd _ _ hv_152.rd)) ?_
  have hlt_b1_w39 : b1 < w39.heap.size := blk_lt hb_b1
  have hlt_b2_w39 : b2 < w39.heap.size := blk_lt hb_b2
  have hlt_b3_w39 : b3 < w39.heap.size := blk_lt hb_b3
  have hlt_b4_w39 : b4 < w39.heap.size := blk_lt hb_b4
  have hlt_b5_w39 : b5 < w39.heap.size := blk_lt hb_b5
  have hlt_b6_w39 : b6 < w39.heap.size := blk_lt hb_b6
  have hlt_b7_w39 : b7 < w39.heap.size := blk_lt hb_b7
  have hlt_b8_w39 : b8 < w39.heap.size := blk_lt hb_b8
  have hlt_b9_w39 : b9 < w39.heap.size := blk_lt hb_b9
  have hlt_b10_w39 : b10 < w39.heap.size := blk_lt hb_b10
  have hlt_b11_w39 : b11 < w39.heap.size := blk_lt hb_b11
  have hlt_b12_w39 : b12 < w39.heap.size := blk_lt hb_b12
  have hlt_b13_w39 : b13 < w39.heap.size := blk_lt hb_b13
  have hlt_b14_w39 : b14 < w39.heap.size := blk_lt hb_b14
  have hz_w39 := hO.size
  rintro _ w40 ⟨ho_w40, rfl⟩
  replace hb_b1 := ho_w40.get hb_b1
  replace hb_b2 := ho_w40.get hb_b2
  replace hb_b3 := ho_w40.get hb_b3
  replace hb_b4 := ho_w40.get hb_b4
  replace hb_b5 := ho_w40.get hb_b5
  replace hb_b6 := ho_w40.get hb_b6
  replace hb_b7 := ho_w40.get hb_b7
  replace hb_b8 := ho_w40.get hb_b8
  replace hb_b9 := ho_w40.get hb_b9
  replace hb_b10 := ho_w40.get hb_b10
  replace hb_b11 := ho_w40.get hb_b11
  replace hb_b12 := ho_w40.get hb_b12
  replace hb_b13 := ho_w40.get hb_b13
  replace hb_b14 := ho_w40.get hb_b14
  have hsz_w40 := ho_w40.size
  replace hO := hO.ext ho_w40
  replace hv_21 := hv_21.ext ho_w40
  replace hv_23 := hv_23.ext ho_w40
  replace hv_24 := hv_24.ext ho_w40
  replace hv_26 := hv_26.ext ho_w40
  replace hv_29 := hv_29.ext ho_w40
  replace hv_32 := hv_32.ext ho_w40
  replace hv_40 := hv_40.ext ho_w40
  replace hv_47 := hv_47.ext ho_w40
  replace hv_48 := hv_48.ext ho_w40
  replace hv_p := hv_p.ext ho_w40
  replace hv_56 := hv_56.ext ho_w40
  replace hv_149 := hv_149.ext ho_w40
  replace hv_152 := hv_152.ext ho_w40
  refine WL.yield rfl rfl rfl (Yield.pick_t rfl rfl rfl) ?_
  refine WL.yield rfl rfl rfl (Yield.move rfl rfl) ?_
  refine WL.yield_g rfl rfl rfl (Yield.move rfl rfl) ?_
  refine WL.yield_g rfl rfl rfl (Yield.not rfl rfl) ?_
  refine WL.yield rfl rfl rfl (Yield.pick_t rfl rfl rfl) ?_
  refine WL.yield rfl rfl rfl (Yield.assign rfl rfl) ?_
  refine WL.fin ?_
  refine Nm.code ?_
  refine W.ret_post (fun _ _ h => h) Try.results14 rfl ?_
  exact ⟨hO, rfl⟩

end Go.Proofs.Ytpnoddfjklcahaa
