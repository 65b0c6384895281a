import Derived.Test.YtpnoddfjklcahaaDa1
import Derived.Test.YtpnoddfjklcahaaProg
import Derived.KernelRfl

set_option linter.all false
namespace Go.Proofs.Ytpnoddfjklcahaa
open Go Go.Lv Go.RowKit Go.Shoal

theorem Try_follows : Try.prog.follows .mixedOrders = true := by kernel_rfl


theorem isNaN_int (w : World) (x : Int) :
    Fc Try.prog 136 #[.int .i64 (x)] w (fun v w' => v = .bool false ∧ w = w') := by
  refine Fc.enter (args := [.int .i64 (x)]) Try.func136 rfl Try.ntmps136 rfl ?_
  intro K_
  refine W.seq ?_
  refine W.region ?_
  refine WL.yield rfl rfl rfl (Yield.assign rfl rfl) ?_
  refine WL.fin ?_
  refine Nm.code ?_
  refine W.seq ?_
  refine W.region ?_
  refine WL.yield rfl rfl rfl (Yield.move rfl rfl) ?_
  refine WL.yield rfl rfl rfl (Yield.move rfl rfl) ?_
  refine WL.yield rfl rfl rfl (Yield.ar rfl rfl rfl rfl (bool_false (fun h => h rfl))) ?_
  refine WL.yield rfl rfl rfl (Yield.assign rfl rfl) ?_
  refine WL.fin ?_
  refine Nm.code ?_
  refine W.ret_post (fun _ _ h => h) Try.results136 rfl ?_
  exact ⟨rfl, rfl⟩

theorem compare_int (w : World) (x y : Int) :
    Fc Try.prog 110 #[.int .i64 (x), .int .i64 (y)] w (fun v w' => v = .int .i64 (cmpI x y) ∧ w = w') := by
  refine Fc.enter (args := [.int .i64 (x), .int .i64 (y)]) Try.func110 rfl Try.ntmps110 rfl ?_
  intro K_
  refine W.seq ?_
  refine W.region ?_
  refine WL.yield rfl rfl rfl (Yield.assign rfl rfl) ?_
  refine WL.fin ?_
  refine Nm.code ?_
  refine W.seq ?_
  refine W.region ?_
  refine WL.yield rfl rfl rfl (Yield.move rfl rfl) ?_
  refine WL.eff _ rfl rfl (Eff.fn rfl rfl Try.call136 (by rintro _ rfl; exact isNaN_int _ _)) ?_
  rintro _ _ ⟨rfl, rfl⟩
  refine WL.yield rfl rfl rfl (Yield.assign rfl rfl) ?_
  refine WL.fin ?_
  refine Nm.code ?_
  refine W.seq ?_
  refine W.region ?_
  refine WL.yield rfl rfl rfl (Yield.move rfl rfl) ?_
  refine WL.eff _ rfl rfl (Eff.fn rfl rfl Try.call136 (by rintro _ rfl; exact isNaN_int _ _)) ?_
  rintro _ _ ⟨rfl, rfl⟩
  refine WL.yield rfl rfl rfl (Yield.assign rfl rfl) ?_
  refine WL.fin ?_
  refine Nm.code ?_
  refine W.seq ?_
  refine W.seq ?_
  refine W.region ?_
  refine WL.yield rfl rfl rfl (Yield.move rfl rfl) ?_
  refine WL.fin ?_
  refine Nm.code ?_
  refine W.cond_false rfl ?_
  refine W.skipN ?_
  refine Nm.code ?_
  refine W.seq ?_
  refine W.seq ?_
  refine W.region ?_
  refine WL.yield rfl rfl rfl (Yield.move rfl rfl) ?_
  refine WL.fin ?_
  refine Nm.code ?_
  refine W.cond_false rfl ?_
  refine W.skipN ?_
  refine Nm.code ?_
  refine W.seq ?_
  refine W.seq ?_
  refine W.region ?_
  refine WL.yield rfl rfl rfl (Yield.move rfl rfl) ?_
  refine WL.yield rfl rfl rfl (Yield.move rfl rfl) ?_
  refine WL.yield rfl rfl rfl (Yield.bin rfl rfl rfl rfl) ?_
  refine WL.fin ?_
  refine Nm.code ?_
  refine W.cond_dec rfl (fun hc3 => ?_) (fun hc3 => ?_)
  · refine W.seq ?_
    refine W.region ?_
    refine WL.yield rfl rfl rfl (Yield.assign rfl rfl) ?_
    refine WL.fin ?_
    refine Nm.code ?_
    refine W.ret_post (fun _ _ h => h) Try.results110 rfl ?_
    exact ⟨int_eq (by unfold cmpI; split <;> (try split) <;> omega), rfl⟩
  · refine W.skipN ?_
    refine Nm.code ?_
    refine W.seq ?_
    refine W.seq ?_
    refine W.region ?_
    refine WL.yield rfl rfl rfl (Yield.move rfl rfl) ?_
    refine WL.yield rfl rfl rfl (Yield.move rfl rfl) ?_
    refine WL.yield rfl rfl rfl (Yield.bin rfl rfl rfl rfl) ?_
    refine WL.fin ?_
    refine Nm.code ?_
    refine W.cond_dec rfl (fun hc4 => ?_) (fun hc4 => ?_)
    · refine W.seq ?_
      refine W.region ?_
      refine WL.yield rfl rfl rfl (Yield.assign rfl rfl) ?_
      refine WL.fin ?_
      refine Nm.code ?_
      refine W.ret_post (fun _ _ h => h) Try.results110 rfl ?_
      exact ⟨int_eq (by unfold cmpI; split <;> (try split) <;> omega), rfl⟩
    · refine W.skipN ?_
      refine Nm.code ?_
      refine W.seq ?_
      refine W.region ?_
      refine WL.yield rfl rfl rfl (Yield.assign rfl rfl) ?_
      refine WL.fin ?_
      refine Nm.code ?_
      refine W.ret_post (fun _ _ h => h) Try.results110 rfl ?_
      exact ⟨int_eq (by unfold cmpI; split <;> (try split) <;> omega), rfl⟩

theorem isNaN_uint64 (w : World) (x : Int) :
    Fc Try.prog 137 #[.int .u64 (x)] w (fun v w' => v = .bool false ∧ w = w') := by
  refine Fc.enter (args := [.int .u64 (x)]) Try.func137 rfl Try.ntmps137 rfl ?_
  intro K_
  refine W.seq ?_
  refine W.region ?_
  refine WL.yield rfl rfl rfl (Yield.assign rfl rfl) ?_
  refine WL.fin ?_
  refine Nm.code ?_
  refine W.seq ?_
  refine W.region ?_
  refine WL.yield rfl rfl rfl (Yield.move rfl rfl) ?_
  refine WL.yield rfl rfl rfl (Yield.move rfl rfl) ?_
  refine WL.yield rfl rfl rfl (Yield.ar rfl rfl rfl rfl (bool_false (fun h => h rfl))) ?_
  refine WL.yield rfl rfl rfl (Yield.assign rfl rfl) ?_
  refine WL.fin ?_
  refine Nm.code ?_
  refine W.ret_post (fun _ _ h => h) Try.results137 rfl ?_
  exact ⟨rfl, rfl⟩

theorem compare_uint64 (w : World) (x y : Int) :
    Fc Try.prog 111 #[.int .u64 (x), .int .u64 (y)] w (fun v w' => v = .int .i64 (cmpI x y) ∧ w = w') := by
  refine Fc.enter (args := [.int .u64 (x), .int .u64 (y)]) Try.func111 rfl Try.ntmps111 rfl ?_
  intro K_
  refine W.seq ?_
  refine W.region ?_
  refine WL.yield rfl rfl rfl (Yield.assign rfl rfl) ?_
  refine WL.fin ?_
  refine Nm.code ?_
  refine W.seq ?_
  refine W.region ?_
  refine WL.yield rfl rfl rfl (Yield.move rfl rfl) ?_
  refine WL.eff _ rfl rfl (Eff.fn rfl rfl Try.call137 (by rintro _ rfl; exact isNaN_uint64 _ _)) ?_
  rintro _ _ ⟨rfl, rfl⟩
  refine WL.yield rfl rfl rfl (Yield.assign rfl rfl) ?_
  refine WL.fin ?_
  refine Nm.code ?_
  refine W.seq ?_
  refine W.region ?_
  refine WL.yield rfl rfl rfl (Yield.move rfl rfl) ?_
  refine WL.eff _ rfl rfl (Eff.fn rfl rfl Try.call137 (by rintro _ rfl; exact isNaN_uint64 _ _)) ?_
  rintro _ _ ⟨rfl, rfl⟩
  refine WL.yield rfl rfl rfl (Yield.assign rfl rfl) ?_
  refine WL.fin ?_
  refine Nm.code ?_
  refine W.seq ?_
  refine W.seq ?_
  refine W.region ?_
  refine WL.yield rfl rfl rfl (Yield.move rfl rfl) ?_
  refine WL.fin ?_
  refine Nm.code ?_
  refine W.cond_false rfl ?_
  refine W.skipN ?_
  refine Nm.code ?_
  refine W.seq ?_
  refine W.seq ?_
  refine W.region ?_
  refine WL.yield rfl rfl rfl (Yield.move rfl rfl) ?_
  refine WL.fin ?_
  refine Nm.code ?_
  refine W.cond_false rfl ?_
  refine W.skipN ?_
  refine Nm.code ?_
  refine W.seq ?_
  refine W.seq ?_
  refine W.region ?_
  refine WL.yield rfl rfl rfl (Yield.move rfl rfl) ?_
  refine WL.yield rfl rfl rfl (Yield.move rfl rfl) ?_
  refine WL.yield rfl rfl rfl (Yield.bin rfl rfl rfl rfl) ?_
  refine WL.fin ?_
  refine Nm.code ?_
  refine W.cond_dec rfl (fun hc3 => ?_) (fun hc3 => ?_)
  · refine W.seq ?_
    refine W.region ?_
    refine WL.yield rfl rfl rfl (Yield.assign rfl rfl) ?_
    refine WL.fin ?_
    refine Nm.code ?_
    refine W.ret_post (fun _ _ h => h) Try.results111 rfl ?_
    exact ⟨int_eq (by unfold cmpI; split <;> (try split) <;> omega), rfl⟩
  · refine W.skipN ?_
    refine Nm.code ?_
    refine W.seq ?_
    refine W.seq ?_
    refine W.region ?_
    refine WL.yield rfl rfl rfl (Yield.move rfl rfl) ?_
    refine WL.yield rfl rfl rfl (Yield.move rfl rfl) ?_
    refine WL.yield rfl rfl rfl (Yield.bin rfl rfl rfl rfl) ?_
    refine WL.fin ?_
    refine Nm.code ?_
    refine W.cond_dec rfl (fun hc4 => ?_) (fun hc4 => ?_)
    · refine W.seq ?_
      refine W.region ?_
      refine WL.yield rfl rfl rfl (Yield.assign rfl rfl) ?_
      refine WL.fin ?_
      refine Nm.code ?_
      refine W.ret_post (fun _ _ h => h) Try.results111 rfl ?_
      exact ⟨int_eq (by unfold cmpI; split <;> (try split) <;> omega), rfl⟩
    · refine W.skipN ?_
      refine Nm.code ?_
      refine W.seq ?_
      refine W.region ?_
      refine WL.yield rfl rfl rfl (Yield.assign rfl rfl) ?_
      refine WL.fin ?_
      refine Nm.code ?_
      refine W.ret_post (fun _ _ h => h) Try.results111 rfl ?_
      exact ⟨int_eq (by unfold cmpI; split <;> (try split) <;> omega), rfl⟩

theorem or_any (w : World) (A : Option Addr) (c : Nat) (l : List Int) (hr : Rd (encIv .i64) w A l) (hlen : l.length ≤ 1000) :
    Fc Try.prog 109 #[.slice (A) (l.length) (c)] w (fun v w' => v = .int .i64 (orL l) ∧ w = w') := by
  refine Fc.enter (args := [.slice (A) (l.length) (c)]) Try.func109 rfl Try.ntmps109 rfl ?_
  intro K_
  refine W.seq ?_
  refine W.region ?_
  refine WL.yield rfl rfl rfl (Yield.assign rfl rfl) ?_
  refine WL.fin ?_
  refine Nm.code ?_
  refine W.seq ?_
  refine W.region ?_
  refine WL.yield rfl rfl rfl (Yield.assign rfl rfl) ?_
  refine WL.fin ?_
  refine Nm.code ?_
  refine W.seq ?_
  refine W.seq ?_
  refine W.region ?_
  refine WL.yield rfl rfl rfl (Yield.move rfl rfl) ?_
  refine WL.yield rfl rfl rfl (Yield.lenSlice rfl rfl Try.runUnderlying23) ?_
  refine WL.yield rfl rfl rfl (Yield.move rfl rfl) ?_
  refine WL.fin ?_
  refine Nm.code ?_
  refine W.block ?_
  refine W.loop (σ := Nat) (fun i => [(3, .int .i64 (0)), (6, .slice (A) (l.length) (c)), (7, .int .i64 (l.length)), (8, .int .i64 (i))]) (fun i ww => (i ≤ l.length ∧ w = ww ∧ ∀ j x, j < i → l[j]? = some x → x = 0)) (fun i => (l.length - i)) 0 (Env.has_cons rfl (Env.has_cons rfl (Env.has_cons rfl (Env.has_cons rfl Env.has_nil)))) ⟨by omega, rfl, fun j x h => by omega⟩ ?_
  rintro i w1 ⟨hi, rfl, hz⟩
  refine W.seq ?_
  refine W.region ?_
  refine WL.yield rfl rfl rfl (Yield.bin rfl rfl rfl rfl) ?_
  refine WL.fin ?_
  refine Nm.code ?_
  refine W.seq ?_
  refine W.cond_dec rfl (fun hc0 => ?_) (fun hc0 => ?_)
  · have hlt_x : i < l.length := by omega
    obtain ⟨ad, rfl⟩ := hr.addr hlt_x
    obtain ⟨x, hx⟩ := getD_some hlt_x
    refine W.skipN ?_
    refine Nm.code ?_
    refine W.seq ?_
    refine W.block ?_
    refine W.seq ?_
    refine W.region ?_
    refine WL.yield rfl rfl rfl (Yield.indexNat i rfl rfl rfl Try.runUnderlying23 Try.sizeOf3 (by omega)) ?_
    refine WL.yield rfl rfl rfl (Yield.load (v := .int .i64 (x)) rfl rfl Try.isAgg3 (hr.at0 hx rfl)) ?_
    refine WL.yield rfl rfl rfl (Yield.assign rfl rfl) ?_
    refine WL.fin ?_
    refine Nm.code ?_
    refine W.seq ?_
    refine W.region ?_
    refine WL.yield rfl rfl rfl (Yield.move rfl rfl) ?_
    refine WL.yield rfl rfl rfl (Yield.move rfl rfl) ?_
    refine WL.yield rfl rfl rfl (Yield.bin rfl rfl rfl rfl) ?_
    refine WL.fin ?_
    refine Nm.code ?_
    refine W.cond_dec rfl (fun hc1 => ?_) (fun hc1 => ?_)
    · refine W.seq ?_
      refine W.region ?_
      refine WL.yield rfl rfl rfl (Yield.move rfl rfl) ?_
      refine WL.yield rfl rfl rfl (Yield.assign rfl rfl) ?_
      refine WL.fin ?_
      refine Nm.code ?_
      refine W.ret_post (fun _ _ h => h) Try.results109 rfl ?_
      exact ⟨int_eq (by first | exact (orL_zero hz hx (by omega)).symm | exact (orL_none (fun j x hj => hz j x (by omega))).symm), rfl⟩
    · refine W.skipN ?_
      refine Nm.block ?_
      refine Nm.code ?_
      refine W.region ?_
      refine WL.yield rfl rfl rfl (Yield.ar (v' := .int .i64 (i + 1)) rfl rfl rfl rfl (int_eq (by rw [wrap_i64 (by omega) (by omega)] <;> omega))) ?_
      refine WL.yield rfl rfl rfl (Yield.move rfl rfl) ?_
      refine WL.fin ?_
      refine Nm.again (i + 1) (Env.has_cons rfl (Env.has_cons rfl (Env.has_cons rfl (Env.has_cons rfl Env.has_nil)))) ⟨by omega, rfl, upto_step hz hx (by omega)⟩ (by omega)
  · refine W.exitX ?_
    refine Ex.thenX ?_
    refine Ex.thenX ?_
    refine Ex.hit ?_
    refine Nm.code ?_
    refine W.seq ?_
    refine W.region ?_
    refine WL.yield rfl rfl rfl (Yield.move rfl rfl) ?_
    refine WL.yield rfl rfl rfl (Yield.assign rfl rfl) ?_
    refine WL.fin ?_
    refine Nm.code ?_
    refine W.ret_post (fun _ _ h => h) Try.results109 rfl ?_
    exact ⟨int_eq (by first | exact (orL_zero hz hx (by omega)).symm | exact (orL_none (fun j x hj => hz j x (by omega))).symm), rfl⟩

theorem all_any (w : World) (n : Nat) (h : n ≤ 63) :
    Fc Try.prog 75 #[.int .i64 (n)] w (fun v w' => v = .int .u64 ((allM n).toNat : Int) ∧ w = w') := by
  refine Fc.enter (args := [.int .i64 (n)]) Try.func75 rfl Try.ntmps75 rfl ?_
  intro K_
  refine W.seq ?_
  refine W.region ?_
  refine WL.yield rfl rfl rfl (Yield.assign rfl rfl) ?_
  refine WL.fin ?_
  refine Nm.code ?_
  refine W.seq ?_
  refine W.region ?_
  refine WL.yield rfl rfl rfl (Yield.move rfl rfl) ?_
  refine WL.yield rfl rfl rfl ((Yield.max2 rfl rfl rfl).cast (v' := .int .i64 (n)) (int_eq (by split <;> omega))) ?_
  refine WL.yield rfl rfl rfl ((Yield.min2 rfl rfl rfl).cast (v' := .int .i64 (n)) (int_eq (by split <;> omega))) ?_
  refine WL.yield rfl rfl rfl (Yield.assign rfl rfl) ?_
  refine WL.fin ?_
  refine Nm.code ?_
  refine W.seq ?_
  refine W.region ?_
  refine WL.yield rfl rfl rfl (Yield.move rfl rfl) ?_
  refine WL.yield rfl rfl rfl ((Yield.shl rfl rfl rfl (by omega)).cast (int_eq (shl_one h))) ?_
  refine WL.yield rfl rfl rfl (Yield.ar (v' := .int .u64 (((allM n).toNat : Int))) rfl rfl rfl rfl (int_eq (shl_less h))) ?_
  refine WL.yield rfl rfl rfl (Yield.assign rfl rfl) ?_
  refine WL.fin ?_
  refine Nm.code ?_
  refine W.ret_post (fun _ _ h => h) Try.results75 rfl ?_
  exact ⟨rfl, rfl⟩

theorem within_any (w : World) (a b : BitVec 64) :
    Fc Try.prog 30 #[.int .u64 ((a.toNat : Int)), .int .u64 ((b.toNat : Int))] w (fun v w' => v = .bool (within a b) ∧ w = w') := by
  refine Fc.enter (args := [.int .u64 ((a.toNat : Int)), .int .u64 ((b.toNat : Int))]) Try.func30 rfl Try.ntmps30 rfl ?_
  intro K_
  refine W.seq ?_
  refine W.region ?_
  refine WL.yield rfl rfl rfl (Yield.assign rfl rfl) ?_
  refine WL.fin ?_
  refine Nm.code ?_
  refine W.seq ?_
  refine W.region ?_
  refine WL.yield rfl rfl rfl (Yield.move rfl rfl) ?_
  refine WL.yield rfl rfl rfl (Yield.move rfl rfl) ?_
  refine WL.yield rfl rfl rfl (Yield.ar (v' := .int .u64 (((a &&& ~~~ b).toNat : Int))) rfl rfl rfl rfl (int_eq (bv_andNot a b))) ?_
  refine WL.yield rfl rfl rfl (Yield.ar (v' := .bool (within a b)) rfl rfl rfl rfl (bool_eq (decide_eq_decide.2 (bv_zero _)))) ?_
  refine WL.yield rfl rfl rfl (Yield.assign rfl rfl) ?_
  refine WL.fin ?_
  refine Nm.code ?_
  refine W.ret_post (fun _ _ h => h) Try.results30 rfl ?_
  exact ⟨rfl, rfl⟩

theorem may_any (w : World) (x : En) :
    Fc Try.prog 66 #[.agg #[.int .i64 (x.f), .int .u64 ((x.n.toNat : Int)), .int .u64 ((x.t.toNat : Int))]] w (fun v w' => Ext w w' ∧ v = .bool (may x)) := by
  refine Fc.enter (args := [.agg #[.int .i64 (x.f), .int .u64 ((x.n.toNat : Int)), .int .u64 ((x.t.toNat : Int))]]) Try.func66 rfl Try.ntmps66 rfl ?_
  intro K_
  have hO : Only (fun _ => False) w w := Only.refl _ _
  refine W.seq ?_
  refine W.region ?_
  refine WL.eff _ rfl rfl (Eff.box rfl rfl) ?_
  rintro _ w1 ⟨_, b1, rfl, hs_b1, rfl, he_w1⟩
  have hb_b1 : w1.heap[b1]? = some (.cells #[.int .i64 (x.f), .int .u64 ((x.n.toNat : Int)), .int .u64 ((x.t.toNat : Int))] 51 (0, 0)) := by rw [he_w1, hs_b1]; exact new_get _ _
  have ho_w1 : Ext w w1 := by rw [he_w1]; exact Ext.alloc _ _
  clear he_w1
  have hn_b1 : w.heap.size ≤ b1 := by rw [hs_b1]; exact hO.size
  replace hO := hO.ext ho_w1
  refine WL.yield rfl rfl rfl (Yield.assign rfl rfl) ?_
  refine WL.fin ?_
  refine Nm.code ?_
  refine W.seq ?_
  refine W.region_draw 17 (w1 = ·) rfl Try_follows (by kernel_rfl) (by kernel_rfl) ?_
  refine HT.read (i := 0) (by kernel_rfl) rfl rfl rfl rfl (YC.read (by rintro _ rfl; exact (Yield.fieldAt (k := 0) rfl rfl Try.runUnderlying51 rfl Try.sizeOf3 rfl))) ?_
  refine HT.read (i := 1) (by kernel_rfl) rfl rfl rfl rfl (YC.read (by rintro _ rfl; exact (Yield.load (v := .int .i64 (x.f)) rfl rfl Try.isAgg3 (cell_get hb_b1 rfl)))) ?_
  by_cases h1 : x.f ≥ 0
  · refine HT.read (i := 2) (by kernel_rfl) rfl rfl rfl rfl (YC.read (by rintro _ rfl; exact (Yield.ar rfl rfl rfl rfl (bool_true (h1))))) ?_
    refine HT.read (i := 3) (by kernel_rfl) rfl rfl rfl rfl (YC.read (by rintro _ rfl; exact (Yield.move rfl rfl))) ?_
    refine HT.read (i := 4) (by kernel_rfl) rfl rfl rfl rfl (YC.read (by rintro _ rfl; exact (Yield.fieldAt (k := 0) rfl rfl Try.runUnderlying51 rfl Try.sizeOf3 rfl))) ?_
    refine HT.read (i := 5) (by kernel_rfl) rfl rfl rfl rfl (YC.read (by rintro _ rfl; exact (Yield.load (v := .int .i64 (x.f)) rfl rfl Try.isAgg3 (cell_get hb_b1 rfl)))) ?_
    by_cases h2 : x.f < 16
    · refine HT.read (i := 6) (by kernel_rfl) rfl rfl rfl rfl (YC.read (by rintro _ rfl; exact (Yield.ar rfl rfl rfl rfl (bool_true (h2))))) ?_
      refine HT.read (i := 7) (by kernel_rfl) rfl rfl rfl rfl (YC.read (by rintro _ rfl; exact (Yield.pick_t rfl rfl rfl))) ?_
      refine HT.read (i := 8) (by kernel_rfl) rfl rfl rfl rfl (YC.read (by rintro _ rfl; exact (Yield.move rfl rfl))) ?_
      refine HT.read (i := 9) (by kernel_rfl) rfl rfl rfl rfl (YC.read (by rintro _ rfl; exact (Yield.fieldAt (k := 1) rfl rfl Try.runUnderlying51 rfl Try.sizeOf32 rfl))) ?_
      refine HT.read (i := 10) (by kernel_rfl) rfl rfl rfl rfl (YC.read (by rintro _ rfl; exact (Yield.load (v := .int .u64 ((x.n.toNat : Int))) rfl rfl Try.isAgg32 (cell_get hb_b1 rfl)))) ?_
      by_cases h3 : (x.n.toNat : Int) > 0
      · refine HT.read (i := 11) (by kernel_rfl) rfl rfl rfl rfl (YC.read (by rintro _ rfl; exact (Yield.ar rfl rfl rfl rfl (bool_true (h3))))) ?_
        refine HT.read (i := 12) (by kernel_rfl) rfl rfl rfl rfl (YC.read (by rintro _ rfl; exact (Yield.pick_t rfl rfl rfl))) ?_
        refine HT.read (i := 13) (by kernel_rfl) rfl rfl rfl rfl (YC.read (by rintro _ rfl; exact (Yield.move rfl rfl))) ?_
        refine HT.read (i := 14) (by kernel_rfl) rfl rfl rfl rfl (YC.read (by rintro _ rfl; exact (Yield.fieldAt (k := 2) rfl rfl Try.runUnderlying51 rfl Try.sizeOf49 rfl))) ?_
        refine HT.read (i := 15) (by kernel_rfl) rfl rfl rfl rfl (YC.read (by rintro _ rfl; exact (Yield.load (v := .int .u64 ((x.t.toNat : Int))) rfl rfl Try.isAgg49 (cell_get hb_b1 rfl)))) ?_
        refine HT.read (i := 16) (by kernel_rfl) rfl rfl rfl rfl (YC.fn rfl rfl Try.call75 (by rintro _ rfl; exact all_any _ 16 (by omega))) ?_
        refine HT.fin (by kernel_rfl) ?_
        rintro _ rfl
        show WL _ _ _ _ _ _ _ _
        refine WL.eff _ rfl rfl (Eff.fn rfl rfl Try.call30 (by rintro _ rfl; exact within_any _ x.t (allM 16))) ?_
        rintro _ _ ⟨rfl, rfl⟩
        refine WL.yield rfl rfl rfl (Yield.pick_t rfl rfl rfl) ?_
        refine WL.yield rfl rfl rfl (Yield.assign rfl rfl) ?_
        refine WL.fin ?_
        refine Nm.code ?_
        refine W.ret_post (fun _ _ h => h) Try.results66 rfl ?_
        exact ⟨hO, bool_eq (by simp only [may, *, decide_true, decide_false, Bool.and_true, Bool.true_and, Bool.and_false, Bool.false_and])⟩
      · refine HT.read (i := 11) (by kernel_rfl) rfl rfl rfl rfl (YC.read (by rintro _ rfl; exact (Yield.ar rfl rfl rfl rfl (bool_false (h3))))) ?_
        refine HT.read (i := 12) (by kernel_rfl) rfl rfl rfl rfl (YC.read (by rintro _ rfl; exact (Yield.pick_t rfl rfl rfl))) ?_
        refine HT.read (i := 13) (by kernel_rfl) rfl rfl rfl rfl (YC.read (by rintro _ rfl; exact (Yield.move rfl rfl))) ?_
        refine HT.skip (i := 14) (by kernel_rfl) rfl rfl rfl rfl ?_
        refine HT.skip (i := 15) (by kernel_rfl) rfl rfl rfl rfl ?_
        refine HT.skip (i := 16) (by kernel_rfl) rfl rfl rfl rfl ?_
        refine HT.fin (by kernel_rfl) ?_
        rintro _ rfl
        show WL _ _ _ _ _ _ _ _
        refine WL.skip_g rfl rfl rfl ?_
        refine WL.yield rfl rfl rfl (Yield.pick_f rfl rfl rfl) ?_
        refine WL.yield rfl rfl rfl (Yield.assign rfl rfl) ?_
        refine WL.fin ?_
        refine Nm.code ?_
        refine W.ret_post (fun _ _ h => h) Try.results66 rfl ?_
        exact ⟨hO, bool_eq (by simp only [may, *, decide_true, decide_false, Bool.and_true, Bool.true_and, Bool.and_false, Bool.false_and])⟩
    · refine HT.read (i := 6) (by kernel_rfl) rfl rfl rfl rfl (YC.read (by rintro _ rfl; exact (Yield.ar rfl rfl rfl rfl (bool_false (h2))))) ?_
      refine HT.read (i := 7) (by kernel_rfl) rfl rfl rfl rfl (YC.read (by rintro _ rfl; exact (Yield.pick_t rfl rfl rfl))) ?_
      refine HT.read (i := 8) (by kernel_rfl) rfl rfl rfl rfl (YC.read (by rintro _ rfl; exact (Yield.move rfl rfl))) ?_
      refine HT.skip (i := 9) (by kernel_rfl) rfl rfl rfl rfl ?_
      refine HT.skip (i := 10) (by kernel_rfl) rfl rfl rfl rfl ?_
      refine HT.skip (i := 11) (by kernel_rfl) rfl rfl rfl rfl ?_
      refine HT.read (i := 12) (by kernel_rfl) rfl rfl rfl rfl (YC.read (by rintro _ rfl; exact (Yield.pick_f rfl rfl rfl))) ?_
      refine HT.read (i := 13) (by kernel_rfl) rfl rfl rfl rfl (YC.read (by rintro _ rfl; exact (Yield.move rfl rfl))) ?_
      refine HT.skip (i := 14) (by kernel_rfl) rfl rfl rfl rfl ?_
      refine HT.skip (i := 15) (by kernel_rfl) rfl rfl rfl rfl ?_
      refine HT.skip (i := 16) (by kernel_rfl) rfl rfl rfl rfl ?_
      refine HT.fin (by kernel_rfl) ?_
      rintro _ rfl
      show WL _ _ _ _ _ _ _ _
      refine WL.skip_g rfl rfl rfl ?_
      refine WL.yield rfl rfl rfl (Yield.pick_f rfl rfl rfl) ?_
      refine WL.yield rfl rfl rfl (Yield.assign rfl rfl) ?_
      refine WL.fin ?_
      refine Nm.code ?_
      refine W.ret_post (fun _ _ h => h) Try.results66 rfl ?_
      exact ⟨hO, bool_eq (by simp only [may, *, decide_true, decide_false, Bool.and_true, Bool.true_and, Bool.and_false, Bool.false_and])⟩
  · refine HT.read (i := 2) (by kernel_rfl) rfl rfl rfl rfl (YC.read (by rintro _ rfl; exact (Yield.ar rfl rfl rfl rfl (bool_false (h1))))) ?_
    refine HT.read (i := 3) (by kernel_rfl) rfl rfl rfl rfl (YC.read (by rintro _ rfl; exact (Yield.move rfl rfl))) ?_
    refine HT.skip (i := 4) (by kernel_rfl) rfl rfl rfl rfl ?_
    refine HT.skip (i := 5) (by kernel_rfl) rfl rfl rfl rfl ?_
    refine HT.skip (i := 6) (by kernel_rfl) rfl rfl rfl rfl ?_
    refine HT.read (i := 7) (by kernel_rfl) rfl rfl rfl rfl (YC.read (by rintro _ rfl; exact (Yield.pick_f rfl rfl rfl))) ?_
    refine HT.read (i := 8) (by kernel_rfl) rfl rfl rfl rfl (YC.read (by rintro _ rfl; exact (Yield.move rfl rfl))) ?_
    refine HT.skip (i := 9) (by kernel_rfl) rfl rfl rfl rfl ?_
    refine HT.skip (i := 10) (by kernel_rfl) rfl rfl rfl rfl ?_
    refine HT.skip (i := 11) (by kernel_rfl) rfl rfl rfl rfl ?_
    refine HT.read (i := 12) (by kernel_rfl) rfl rfl rfl rfl (YC.read (by rintro _ rfl; exact (Yield.pick_f rfl rfl rfl))) ?_
    refine HT.read (i := 13) (by kernel_rfl) rfl rfl rfl rfl (YC.read (by rintro _ rfl; exact (Yield.move rfl rfl))) ?_
    refine HT.skip (i := 14) (by kernel_rfl) rfl rfl rfl rfl ?_
    refine HT.skip (i := 15) (by kernel_rfl) rfl rfl rfl rfl ?_
    refine HT.skip (i := 16) (by kernel_rfl) rfl rfl rfl rfl ?_
    refine HT.fin (by kernel_rfl) ?_
    rintro _ rfl
    show WL _ _ _ _ _ _ _ _
    refine WL.skip_g rfl rfl rfl ?_
    refine WL.yield rfl rfl rfl (Yield.pick_f rfl rfl rfl) ?_
    refine WL.yield rfl rfl rfl (Yield.assign rfl rfl) ?_
    refine WL.fin ?_
    refine Nm.code ?_
    refine W.ret_post (fun _ _ h => h) Try.results66 rfl ?_
    exact ⟨hO, bool_eq (by simp only [may, *, decide_true, decide_false, Bool.and_true, Bool.true_and, Bool.and_false, Bool.false_and])⟩

theorem order_any (w : World) (a b : En) :
    Fc Try.prog 67 #[.agg #[.int .i64 (a.f), .int .u64 ((a.n.toNat : Int)), .int .u64 ((a.t.toNat : Int))], .agg #[.int .i64 (b.f), .int .u64 ((b.n.toNat : Int)), .int .u64 ((b.t.toNat : Int))]] w (fun v w' => Ext w w' ∧ v = .int .i64 (ord a b)) := by
  refine Fc.enter (args := [.agg #[.int .i64 (a.f), .int .u64 ((a.n.toNat : Int)), .int .u64 ((a.t.toNat : Int))], .agg #[.int .i64 (b.f), .int .u64 ((b.n.toNat : Int)), .int .u64 ((b.t.toNat : Int))]]) Try.func67 rfl Try.ntmps67 rfl ?_
  intro K_
  have hO : Only (fun _ => False) w w := Only.refl _ _
  refine W.seq ?_
  refine W.region ?_
  refine WL.eff _ rfl rfl (Eff.box rfl rfl) ?_
  rintro _ w1 ⟨_, b1, rfl, hs_b1, rfl, he_w1⟩
  have hb_b1 : w1.heap[b1]? = some (.cells #[.int .i64 (a.f), .int .u64 ((a.n.toNat : Int)), .int .u64 ((a.t.toNat : Int))] 51 (0, 0)) := by rw [he_w1, hs_b1]; exact new_get _ _
  have ho_w1 : Ext w w1 := by rw [he_w1]; exact Ext.alloc _ _
  clear he_w1
  have hn_b1 : w.heap.size ≤ b1 := by rw [hs_b1]; exact hO.size
  replace hO := hO.ext ho_w1
  refine WL.eff _ rfl rfl (Eff.box rfl rfl) ?_
  rintro _ w2 ⟨_, b2, rfl, hs_b2, rfl, he_w2⟩
  have hb_b2 : w2.heap[b2]? = some (.cells #[.int .i64 (b.f), .int .u64 ((b.n.toNat : Int)), .int .u64 ((b.t.toNat : Int))] 51 (0, 0)) := by rw [he_w2, hs_b2]; exact new_get _ _
  have ho_w2 : Ext w1 w2 := by rw [he_w2]; exact Ext.alloc _ _
  clear he_w2
  have hn_b2 : w.heap.size ≤ b2 := by rw [hs_b2]; exact hO.size
  have hq_b1_b2 : b1 < b2 := by rw [hs_b2]; exact blk_lt hb_b1
  replace hb_b1 := ho_w2.get hb_b1
  replace hO := hO.ext ho_w2
  refine WL.yield rfl rfl rfl (Yield.assign rfl rfl) ?_
  refine WL.fin ?_
  refine Nm.code ?_
  refine W.seq ?_
  refine W.region_draw 9 (w2 = ·) rfl Try_follows (by kernel_rfl) (by kernel_rfl) ?_
  refine HT.read (i := 0) (by kernel_rfl) rfl rfl rfl rfl (YC.read (by rintro _ rfl; exact (Yield.fieldAt (k := 0) rfl rfl Try.runUnderlying51 rfl Try.sizeOf3 rfl))) ?_
  refine HT.read (i := 1) (by kernel_rfl) rfl rfl rfl rfl (YC.read (by rintro _ rfl; exact (Yield.load (v := .int .i64 (a.f)) rfl rfl Try.isAgg3 (cell_get hb_b1 rfl)))) ?_
  refine HT.read (i := 2) (by kernel_rfl) rfl rfl rfl rfl (YC.read (by rintro _ rfl; exact (Yield.fieldAt (k := 0) rfl rfl Try.runUnderlying51 rfl Try.sizeOf3 rfl))) ?_
  refine HT.read (i := 3) (by kernel_rfl) rfl rfl rfl rfl (YC.read (by rintro _ rfl; exact (Yield.load (v := .int .i64 (b.f)) rfl rfl Try.isAgg3 (cell_get hb_b2 rfl)))) ?_
  refine HT.read (i := 4) (by kernel_rfl) rfl rfl rfl rfl (YC.fn rfl rfl Try.call110 (by rintro _ rfl; exact compare_int _ _ _)) ?_
  refine HT.read (i := 5) (by kernel_rfl) rfl rfl rfl rfl (YC.read (by rintro _ rfl; exact (Yield.fieldAt (k := 1) rfl rfl Try.runUnderlying51 rfl Try.sizeOf32 rfl))) ?_
  refine HT.read (i := 6) (by kernel_rfl) rfl rfl rfl rfl (YC.read (by rintro _ rfl; exact (Yield.load (v := .int .u64 ((a.n.toNat : Int))) rfl rfl Try.isAgg32 (cell_get hb_b1 rfl)))) ?_
  refine HT.read (i := 7) (by kernel_rfl) rfl rfl rfl rfl (YC.read (by rintro _ rfl; exact (Yield.fieldAt (k := 1) rfl rfl Try.runUnderlying51 rfl Try.sizeOf32 rfl))) ?_
  refine HT.read (i := 8) (by kernel_rfl) rfl rfl rfl rfl (YC.read (by rintro _ rfl; exact (Yield.load (v := .int .u64 ((b.n.toNat : Int))) rfl rfl Try.isAgg32 (cell_get hb_b2 rfl)))) ?_
  refine HT.fin (by kernel_rfl) ?_
  rintro _ rfl
  show WL _ _ _ _ _ _ _ _
  refine WL.eff _ rfl rfl (Eff.fn rfl rfl Try.call111 (by rintro _ rfl; exact compare_uint64 _ _ _)) ?_
  rintro _ _ ⟨rfl, rfl⟩
  refine WL.eff _ rfl rfl (Eff.buildSlice (cs := [.int .i64 (cmpI a.f b.f), .int .i64 (cmpI (a.n.toNat : Int) (b.n.toNat : Int))]) [.int .i64 (cmpI a.f b.f), .int .i64 (cmpI (a.n.toNat : Int) (b.n.toNat : Int))] rfl rfl Try.runUnderlying23 Try.sizeOf3 Try.zeroValue3 rfl rfl rfl (List.forall_mem_cons.2 ⟨rfl, (List.forall_mem_cons.2 ⟨rfl, (fun _ h => nomatch h)⟩)⟩) rfl) ?_
  rintro _ w3 ⟨_, b3, rfl, hs_b3, rfl, he_w3⟩
  have hb_b3 : w3.heap[b3]? = some (.cells #[.int .i64 (cmpI a.f b.f), .int .i64 (cmpI (a.n.toNat : Int) (b.n.toNat : Int))] 3 (0, 0)) := by rw [he_w3, hs_b3]; exact new_get _ _
  have ho_w3 : Ext w2 w3 := by rw [he_w3]; exact Ext.alloc _ _
  clear he_w3
  have hn_b3 : w.heap.size ≤ b3 := by rw [hs_b3]; exact hO.size
  have hq_b1_b3 : b1 < b3 := by rw [hs_b3]; exact blk_lt hb_b1
  have hq_b2_b3 : b2 < b3 := by rw [hs_b3]; exact blk_lt hb_b2
  replace hb_b1 := ho_w3.get hb_b1
  replace hb_b2 := ho_w3.get hb_b2
  replace hO := hO.ext ho_w3
  refine WL.eff _ rfl rfl (Eff.fn rfl rfl Try.call109 (by rintro _ rfl; exact or_any _ _ 2 [cmpI a.f b.f, cmpI (a.n.toNat : Int) (b.n.toNat : Int)] (blk_rd (E := encIv .i64) hb_b3 rfl) (by show 2 ≤ 1000; omega))) ?_
  rintro _ _ ⟨rfl, rfl⟩
  refine WL.yield rfl rfl rfl (Yield.assign rfl rfl) ?_
  refine WL.fin ?_
  refine Nm.code ?_
  refine W.ret_post (fun _ _ h => h) Try.results67 rfl ?_
  exact ⟨hO, rfl⟩

end Go.Proofs.Ytpnoddfjklcahaa
