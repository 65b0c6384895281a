import Derived.Test.YtpnoddfjklcahaaDa6
import Derived.Test.YtpnoddfjklcahaaTr1

set_option linter.all false
namespace Go.Proofs.Ytpnoddfjklcahaa
open Go Go.Lv Go.RowKit Go.Shoal


theorem size_any (w : World) (n : Nat) (h : n < 18446744073709551616) :
    Fc Try.prog 148 #[.int .u64 ((n : Int))] w (fun v w' => Ext w w' ∧ v = .int .i64 ((lebL n).length : Int)) := by
  refine Fc.enter (args := [.int .u64 ((n : Int))]) Try.func148 rfl Try.ntmps148 rfl ?_
  intro K_
  have hO : Only (fun _ => False) w w := Only.refl _ _
  refine W.seq ?_
  refine W.region ?_
  refine WL.yield rfl rfl rfl (Yield.assign rfl rfl) ?_
  refine WL.fin ?_
  refine Nm.code ?_
  refine W.seq ?_
  refine W.region ?_
  refine WL.yield rfl rfl rfl (Yield.assign rfl rfl) ?_
  refine WL.fin ?_
  refine Nm.code ?_
  refine W.seq ?_
  refine W.block ?_
  have hz_w := hO.size
  refine W.loop (σ := Nat × Nat × Nat) (fun ⟨k, m, s⟩ => [(2, .int .i64 (0)), (0, .int .u64 ((m : Int))), (3, .int .i64 (s))]) (fun ⟨k, m, s⟩ ww => ((m < 128 ^ (k + 1) ∧ s + (lebF k m).length = (lebL n).length + 1) ∧ Ext w ww)) (fun ⟨k, m, s⟩ => m) ⟨9, n, 1⟩ (Env.has_cons rfl (Env.has_cons rfl (Env.has_cons rfl Env.has_nil))) ⟨⟨Nat.lt_of_lt_of_le h pow10, by show 1 + (lebL n).length = _; omega⟩, Ext.refl _⟩ ?_
  rintro ⟨k, m, s⟩ w1 ⟨hp, hE_lo1⟩
  have hO_lo1 := hO
  replace hO := hO_lo1.ext hE_lo1
  refine W.seq ?_
  refine W.seq ?_
  refine W.region ?_
  refine WL.yield rfl rfl rfl (Yield.move rfl rfl) ?_
  refine WL.yield rfl rfl rfl (Yield.ar (v' := .bool (decide (¬ m < 128))) rfl rfl rfl rfl (bool_dec (by omega))) ?_
  refine WL.fin ?_
  refine Nm.code ?_
  refine W.cond_dec rfl (fun hc0 => ?_) (fun hc0 => ?_)
  · obtain ⟨j, rfl, he, hj⟩ := lebF_more (by omega) hp.1
    refine W.skipN ?_
    refine Nm.code ?_
    refine W.block ?_
    refine W.seq ?_
    refine W.region ?_
    refine WL.yield rfl rfl rfl (Yield.move rfl rfl) ?_
    refine WL.yield rfl rfl rfl ((Yield.shr rfl rfl rfl (by omega)).cast (int_eq (shr7 m))) ?_
    refine WL.yield rfl rfl rfl (Yield.assign rfl rfl) ?_
    refine WL.fin ?_
    refine Nm.code ?_
    refine W.region ?_
    refine WL.yield rfl rfl rfl (Yield.move rfl rfl) ?_
    refine WL.yield rfl rfl rfl (Yield.ar (v' := .int .i64 (((s + 1 : Nat) : Int))) rfl rfl rfl rfl (int_eq (by have h1 := lebL_le n; have h2 := hp.2; rw [wrap_i64 (by omega) (by omega)]; omega))) ?_
    refine WL.yield rfl rfl rfl (Yield.assign rfl rfl) ?_
    refine WL.fin ?_
    refine Nm.block ?_
    refine Nm.again ⟨j, m / 128, s + 1⟩ (Env.has_cons rfl (Env.has_cons rfl (Env.has_cons rfl Env.has_nil))) ⟨⟨hj, by have h2 := hp.2; rw [he] at h2; simp only [List.length_cons] at h2; omega⟩, hE_lo1⟩ (by show m / 128 < m; omega)
  · refine W.exitX ?_
    refine Ex.thenX ?_
    refine Ex.thenX ?_
    refine Ex.hit ?_
    refine Nm.code ?_
    refine W.seq ?_
    refine W.region ?_
    refine WL.yield rfl rfl rfl (Yield.move rfl rfl) ?_
    refine WL.yield rfl rfl rfl (Yield.assign rfl rfl) ?_
    refine WL.fin ?_
    refine Nm.code ?_
    refine W.ret_post (fun _ _ h => h) Try.results148 rfl ?_
    exact ⟨hO, int_eq (by have h2 := hp.2; rw [lebF_small (by omega)] at h2; simp only [List.length_singleton] at h2; omega)⟩

theorem get_any (w : World) (A : Option Addr) (c : Nat) (l : List UInt8) (hr : Rd encB w A l) :
    Fc Try.prog 116 #[.slice (A) (l.length) (c)] w (fun v w' => Ext w w' ∧ v = .tuple #[.int .u64 (getN l : Int), .int .i64 (getK l : Int)]) := by
  refine Fc.enter (args := [.slice (A) (l.length) (c)]) Try.func116 rfl Try.ntmps116 rfl ?_
  intro K_
  have hO : Only (fun _ => False) w w := Only.refl _ _
  refine W.seq ?_
  refine W.region ?_
  refine WL.yield rfl rfl rfl (Yield.assign rfl rfl) ?_
  refine WL.yield rfl rfl rfl (Yield.assign rfl rfl) ?_
  refine WL.fin ?_
  refine Nm.code ?_
  refine W.seq ?_
  refine W.seq ?_
  refine W.region ?_
  refine WL.yield rfl rfl rfl (Yield.move rfl rfl) ?_
  refine WL.yield rfl rfl rfl (Yield.lenSlice rfl rfl Try.runUnderlying33) ?_
  refine WL.yield rfl rfl rfl (Yield.move rfl rfl) ?_
  refine WL.fin ?_
  refine Nm.code ?_
  refine W.block ?_
  have hz_w := hO.size
  refine W.loop (σ := Nat × Nat) (fun ⟨i, n⟩ => [(6, .slice (A) (l.length) (c)), (7, .int .i64 (l.length)), (8, .int .i64 (i)), (2, .int .u64 ((n : Int))), (3, .int .i64 (0))]) (fun ⟨i, n⟩ ww => ((Rl l i n) ∧ Ext w ww)) (fun ⟨i, n⟩ => (l.length - i)) ⟨0, 0⟩ (Env.has_cons rfl (Env.has_cons rfl (Env.has_cons rfl (Env.has_cons rfl (Env.has_cons rfl Env.has_nil))))) ⟨Rl.zero l, Ext.refl _⟩ ?_
  rintro ⟨i, n⟩ w1 ⟨hp, hE_lo1⟩
  have hO_lo1 := hO
  replace hO := hO_lo1.ext hE_lo1
  refine W.seq ?_
  refine W.region ?_
  refine WL.yield rfl rfl rfl (Yield.bin rfl rfl rfl rfl) ?_
  refine WL.fin ?_
  refine Nm.code ?_
  refine W.seq ?_
  refine W.cond_dec rfl (fun hi => ?_) (fun hi => ?_)
  · have hp1 := hp.1
    have hp2 := hp.2.1
    have hlt_x : i < l.length := by omega
    obtain ⟨ad, rfl⟩ := hr.addr hlt_x
    obtain ⟨x, hx⟩ := getD_some hlt_x
    refine W.skipN ?_
    refine Nm.code ?_
    refine W.seq ?_
    refine W.block ?_
    refine W.seq ?_
    refine W.region ?_
    refine WL.yield rfl rfl rfl (Yield.move rfl rfl) ?_
    refine WL.yield rfl rfl rfl (Yield.indexNat i rfl rfl rfl Try.runUnderlying33 Try.sizeOf5 (by omega)) ?_
    refine WL.yield rfl rfl rfl (Yield.load (v := .int .u8 ((x.toNat : Int))) rfl rfl Try.isAgg5 (Rd.at0 (Rd.ext hr hO) hx rfl)) ?_
    refine WL.yield rfl rfl rfl (Yield.assign rfl rfl) ?_
    refine WL.yield rfl rfl rfl (Yield.assign rfl rfl) ?_
    refine WL.fin ?_
    refine Nm.code ?_
    refine W.seq ?_
    refine W.seq ?_
    refine W.region ?_
    refine WL.yield rfl rfl rfl (Yield.move rfl rfl) ?_
    refine WL.yield rfl rfl rfl (Yield.ar (v' := .bool (decide (i = 10))) rfl rfl rfl rfl (bool_dec (by omega))) ?_
    refine WL.fin ?_
    refine Nm.code ?_
    refine W.cond_dec rfl (fun h10 => ?_) (fun h10 => ?_)
    · refine W.exitX ?_
      refine Ex.thenX ?_
      refine Ex.miss rfl ?_
      refine Ex.thenX ?_
      refine Ex.thenX ?_
      refine Ex.hit ?_
      refine Nm.code ?_
      refine W.seq ?_
      refine W.region ?_
      refine WL.yield rfl rfl rfl (Yield.assign rfl rfl) ?_
      refine WL.yield rfl rfl rfl (Yield.assign rfl rfl) ?_
      refine WL.fin ?_
      refine Nm.code ?_
      refine W.ret_post (fun _ _ h => h) Try.results116 rfl ?_
      refine ⟨hO, ?_⟩
      have hno : getL l = none := by first | exact hp.out (.inl (by omega)) | exact hp.out (.inr (by omega)) | exact hp.size_bad hi9 hx hlt hsz | exact hp.bad hi9 hx (.inr ⟨by omega, by omega⟩) | exact hp.bad hi9 hx (.inl ⟨by omega, by omega, by omega⟩)
      rw [(getL_none hno).1, (getL_none hno).2]; rfl
    · have hi9 : i ≤ 9 := by omega
      refine W.skipN ?_
      refine Nm.code ?_
      refine W.seq ?_
      refine W.region ?_
      refine WL.yield rfl rfl rfl (Yield.move rfl rfl) ?_
      refine WL.yield rfl rfl rfl (Yield.move rfl rfl) ?_
      refine WL.yield rfl rfl rfl (Yield.ar (v' := .int .u8 (((x.toNat % 128 : Nat) : Int))) rfl rfl rfl rfl (int_eq (u8_and127 x))) ?_
      refine WL.yield rfl rfl rfl ((Yield.convInt rfl rfl Try.runUnderlying5 Try.runUnderlying32).cast (v' := .int .u64 (((x.toNat % 128 : Nat) : Int))) (int_eq (wrap_u64 (by omega) (by omega)))) ?_
      refine WL.yield rfl rfl rfl (Yield.move rfl rfl) ?_
      refine WL.yield rfl rfl rfl (Yield.ar (v' := .int .i64 (7 * i)) rfl rfl rfl rfl (int_eq (wrap_i64 (by omega) (by omega)))) ?_
      refine WL.yield rfl rfl rfl ((Yield.shl rfl rfl rfl (by omega)).cast (int_eq (shl_nat hi9 rfl))) ?_
      refine WL.yield rfl rfl rfl (Yield.ar (v' := .int .u64 ((((n ||| (x.toNat % 128 * 128 ^ i % 18446744073709551616)) : Nat) : Int))) rfl rfl rfl rfl (int_eq (or_nat hp.2.2.1 (by omega)))) ?_
      refine WL.yield rfl rfl rfl (Yield.assign rfl rfl) ?_
      refine WL.fin ?_
      refine Nm.code ?_
      refine W.seq ?_
      refine W.region ?_
      refine WL.yield rfl rfl rfl (Yield.move rfl rfl) ?_
      refine WL.yield rfl rfl rfl (Yield.ar (v' := .bool (decide (x.toNat < 128))) rfl rfl rfl rfl (bool_dec (by omega))) ?_
      refine WL.fin ?_
      refine Nm.code ?_
      refine W.cond_dec rfl (fun hlt => ?_) (fun hlt => ?_)
      · refine W.seq ?_
        refine W.seq ?_
        refine W.region ?_
        refine WL.yield rfl rfl rfl (Yield.move rfl rfl) ?_
        refine WL.eff _ rfl rfl (Eff.fn rfl rfl Try.call148 (by rintro _ rfl; exact size_any _ (n ||| (x.toNat % 128 * 128 ^ i % 18446744073709551616)) (or_lt64 hp.2.2.1 (by omega)))) ?_
        have hz_w1 := hO.size
        rintro _ w2 ⟨ho_w2, rfl⟩
        replace hO := hO.ext ho_w2
        replace hE_lo1 := hE_lo1.ext ho_w2
        refine WL.yield rfl rfl rfl (Yield.move rfl rfl) ?_
        refine WL.yield rfl rfl rfl (Yield.ar (v' := .int .i64 (((i + 1 : Nat) : Int))) rfl rfl rfl rfl (int_eq (by rw [wrap_i64 (by omega) (by omega)]; omega))) ?_
        refine WL.yield rfl rfl rfl (Yield.ar (v' := .bool (decide (¬ (lebL (n ||| (x.toNat % 128 * 128 ^ i % 18446744073709551616))).length = i + 1))) rfl rfl rfl rfl (bool_dec (by omega))) ?_
        refine WL.yield rfl rfl rfl (Yield.move rfl rfl) ?_
        by_cases hsz : ¬ (lebL (n ||| (x.toNat % 128 * 128 ^ i % 18446744073709551616))).length = i + 1
        · rw [decide_eq_true hsz]
          refine WL.skip_g rfl rfl rfl ?_
          refine WL.skip_g rfl rfl rfl ?_
          refine WL.skip_g rfl rfl rfl ?_
          refine WL.skip_g rfl rfl rfl ?_
          refine WL.skip_g rfl rfl rfl ?_
          refine WL.skip_g rfl rfl rfl ?_
          refine WL.yield rfl rfl rfl (Yield.pick_t rfl rfl rfl) ?_
          refine WL.fin ?_
          refine Nm.code ?_
          refine W.cond_true rfl ?_
          refine W.exitX ?_
          refine Ex.thenX ?_
          refine Ex.miss rfl ?_
          refine Ex.thenX ?_
          refine Ex.thenX ?_
          refine Ex.hit ?_
          refine Nm.code ?_
          refine W.seq ?_
          refine W.region ?_
          refine WL.yield rfl rfl rfl (Yield.assign rfl rfl) ?_
          refine WL.yield rfl rfl rfl (Yield.assign rfl rfl) ?_
          refine WL.fin ?_
          refine Nm.code ?_
          refine W.ret_post (fun _ _ h => h) Try.results116 rfl ?_
          refine ⟨hO, ?_⟩
          have hno : getL l = none := by first | exact hp.out (.inl (by omega)) | exact hp.out (.inr (by omega)) | exact hp.size_bad hi9 hx hlt hsz | exact hp.bad hi9 hx (.inr ⟨by omega, by omega⟩) | exact hp.bad hi9 hx (.inl ⟨by omega, by omega, by omega⟩)
          rw [(getL_none hno).1, (getL_none hno).2]; rfl
        · rw [decide_eq_false hsz]
          refine WL.yield_g rfl rfl rfl (Yield.move rfl rfl) ?_
          refine WL.yield_g rfl rfl rfl (Yield.ar (v' := .bool (decide (i = 9))) rfl rfl rfl rfl (bool_dec (by omega))) ?_
          refine WL.yield_g rfl rfl rfl (Yield.move rfl rfl) ?_
          by_cases h9 : i = 9
          · rw [decide_eq_true h9]
            refine WL.yield_g rfl rfl rfl (Yield.move rfl rfl) ?_
            refine WL.yield_g rfl rfl rfl (Yield.ar (v' := .bool (decide (1 < x.toNat))) rfl rfl rfl rfl (bool_dec (by omega))) ?_
            refine WL.yield_g rfl rfl rfl (Yield.pick_t rfl rfl rfl) ?_
            refine WL.yield rfl rfl rfl (Yield.pick_f rfl rfl rfl) ?_
            refine WL.fin ?_
            refine Nm.code ?_
            refine W.cond_dec rfl (fun hbig => ?_) (fun hbig => ?_)
            · refine W.exitX ?_
              refine Ex.thenX ?_
              refine Ex.miss rfl ?_
              refine Ex.thenX ?_
              refine Ex.thenX ?_
              refine Ex.hit ?_
              refine Nm.code ?_
              refine W.seq ?_
              refine W.region ?_
              refine WL.yield rfl rfl rfl (Yield.assign rfl rfl) ?_
              refine WL.yield rfl rfl rfl (Yield.assign rfl rfl) ?_
              refine WL.fin ?_
              refine Nm.code ?_
              refine W.ret_post (fun _ _ h => h) Try.results116 rfl ?_
              refine ⟨hO, ?_⟩
              have hno : getL l = none := by first | exact hp.out (.inl (by omega)) | exact hp.out (.inr (by omega)) | exact hp.size_bad hi9 hx hlt hsz | exact hp.bad hi9 hx (.inr ⟨by omega, by omega⟩) | exact hp.bad hi9 hx (.inl ⟨by omega, by omega, by omega⟩)
              rw [(getL_none hno).1, (getL_none hno).2]; rfl
            · refine W.skipN ?_
              refine Nm.code ?_
              refine W.seq ?_
              refine W.region ?_
              refine WL.yield rfl rfl rfl (Yield.move rfl rfl) ?_
              refine WL.yield rfl rfl rfl (Yield.move rfl rfl) ?_
              refine WL.yield rfl rfl rfl (Yield.ar (v' := .int .i64 (((i + 1 : Nat) : Int))) rfl rfl rfl rfl (int_eq (by rw [wrap_i64 (by omega) (by omega)]; omega))) ?_
              refine WL.yield rfl rfl rfl (Yield.assign rfl rfl) ?_
              refine WL.yield rfl rfl rfl (Yield.assign rfl rfl) ?_
              refine WL.fin ?_
              refine Nm.code ?_
              refine W.ret_post (fun _ _ h => h) Try.results116 rfl ?_
              refine ⟨hO, ?_⟩
              have hyes := (by first | exact hp.size_good hi9 hx hlt (by omega) (by omega) | exact (hp.good hi9 hx hlt (by omega) (by omega)).2 : getL l = some ((n ||| (x.toNat % 128 * 128 ^ i % 18446744073709551616)), i + 1))
              rw [(getL_some hyes).1, (getL_some hyes).2]; rfl
          · rw [decide_eq_false h9]
            refine WL.skip_g rfl rfl rfl ?_
            refine WL.skip_g rfl rfl rfl ?_
            refine WL.yield_g rfl rfl rfl (Yield.pick_f rfl rfl rfl) ?_
            refine WL.yield rfl rfl rfl (Yield.pick_f rfl rfl rfl) ?_
            refine WL.fin ?_
            refine Nm.code ?_
            refine W.cond_false rfl ?_
            refine W.skipN ?_
            refine Nm.code ?_
            refine W.seq ?_
            refine W.region ?_
            refine WL.yield rfl rfl rfl (Yield.move rfl rfl) ?_
            refine WL.yield rfl rfl rfl (Yield.move rfl rfl) ?_
            refine WL.yield rfl rfl rfl (Yield.ar (v' := .int .i64 (((i + 1 : Nat) : Int))) rfl rfl rfl rfl (int_eq (by rw [wrap_i64 (by omega) (by omega)]; omega))) ?_
            refine WL.yield rfl rfl rfl (Yield.assign rfl rfl) ?_
            refine WL.yield rfl rfl rfl (Yield.assign rfl rfl) ?_
            refine WL.fin ?_
            refine Nm.code ?_
            refine W.ret_post (fun _ _ h => h) Try.results116 rfl ?_
            refine ⟨hO, ?_⟩
            have hyes := (by first | exact hp.size_good hi9 hx hlt (by omega) (by omega) | exact (hp.good hi9 hx hlt (by omega) (by omega)).2 : getL l = some ((n ||| (x.toNat % 128 * 128 ^ i % 18446744073709551616)), i + 1))
            rw [(getL_some hyes).1, (getL_some hyes).2]; rfl
      · refine W.skipN ?_
        refine Nm.block ?_
        refine Nm.code ?_
        refine W.region ?_
        refine WL.yield rfl rfl rfl (Yield.ar (v' := .int .i64 (((i + 1 : Nat) : Int))) rfl rfl rfl rfl (int_eq (by rw [wrap_i64 (by omega) (by omega)]; omega))) ?_
        refine WL.yield rfl rfl rfl (Yield.move rfl rfl) ?_
        refine WL.fin ?_
        refine Nm.again ⟨i + 1, (n ||| (x.toNat % 128 * 128 ^ i % 18446744073709551616))⟩ (Env.has_cons rfl (Env.has_cons rfl (Env.has_cons rfl (Env.has_cons rfl (Env.has_cons rfl Env.has_nil))))) ⟨hp.next hi9 hx hlt, hE_lo1⟩ (by show l.length - (i + 1) < l.length - i; omega)
  · refine W.exitX ?_
    refine Ex.thenX ?_
    refine Ex.thenX ?_
    refine Ex.hit ?_
    refine Nm.code ?_
    refine W.seq ?_
    refine W.region ?_
    refine WL.yield rfl rfl rfl (Yield.assign rfl rfl) ?_
    refine WL.yield rfl rfl rfl (Yield.assign rfl rfl) ?_
    refine WL.fin ?_
    refine Nm.code ?_
    refine W.ret_post (fun _ _ h => h) Try.results116 rfl ?_
    refine ⟨hO, ?_⟩
    have hno : getL l = none := by first | exact hp.out (.inl (by omega)) | exact hp.out (.inr (by omega)) | exact hp.size_bad hi9 hx hlt hsz | exact hp.bad hi9 hx (.inr ⟨by omega, by omega⟩) | exact hp.bad hi9 hx (.inl ⟨by omega, by omega, by omega⟩)
    rw [(getL_none hno).1, (getL_none hno).2]; rfl

theorem rget_any (w : World) (A : Option Addr) (c : Nat) (l : List UInt8) (hr : Rd encB w A l) :
    Fc Try.prog 118 #[.slice (A) (l.length) (c)] w (fun v w' => Ext w w' ∧ v = .tuple #[.int .u64 (getN l : Int), .int .i64 (getK l : Int)]) := by
  refine Fc.enter (args := [.slice (A) (l.length) (c)]) Try.func118 rfl Try.ntmps118 rfl ?_
  intro K_
  have hO : Only (fun _ => False) w w := Only.refl _ _
  refine W.seq ?_
  refine W.region ?_
  refine WL.yield rfl rfl rfl (Yield.assign rfl rfl) ?_
  refine WL.yield rfl rfl rfl (Yield.assign rfl rfl) ?_
  refine WL.fin ?_
  refine Nm.code ?_
  refine W.seq ?_
  refine W.region ?_
  refine WL.yield rfl rfl rfl (Yield.assign rfl rfl) ?_
  refine WL.fin ?_
  refine Nm.code ?_
  refine W.seq ?_
  refine W.seq ?_
  refine W.region ?_
  refine WL.yield rfl rfl rfl (Yield.assign rfl rfl) ?_
  refine WL.fin ?_
  refine Nm.code ?_
  refine W.block ?_
  have hz_w := hO.size
  refine W.loop (σ := Nat × Nat) (fun ⟨i, n⟩ => [(0, .slice (A) (l.length) (c)), (5, .int .i64 (i)), (4, .int .u64 ((n : Int))), (2, .int .u64 (0)), (3, .int .i64 (0))]) (fun ⟨i, n⟩ ww => ((Rl l i n) ∧ Ext w ww)) (fun ⟨i, n⟩ => (l.length - i)) ⟨0, 0⟩ (Env.has_cons rfl (Env.has_cons rfl (Env.has_cons rfl (Env.has_cons rfl (Env.has_cons rfl Env.has_nil))))) ⟨Rl.zero l, Ext.refl _⟩ ?_
  rintro ⟨i, n⟩ w1 ⟨hp, hE_lo1⟩
  have hO_lo1 := hO
  replace hO := hO_lo1.ext hE_lo1
  refine W.seq ?_
  refine W.seq ?_
  refine W.region ?_
  refine WL.yield rfl rfl rfl (Yield.move rfl rfl) ?_
  refine WL.yield rfl rfl rfl (Yield.move rfl rfl) ?_
  refine WL.yield rfl rfl rfl (Yield.lenSlice rfl rfl Try.runUnderlying33) ?_
  refine WL.yield rfl rfl rfl (Yield.ar (v' := .bool (decide (i < l.length))) rfl rfl rfl rfl (bool_dec (by omega))) ?_
  refine WL.yield rfl rfl rfl (Yield.move rfl rfl) ?_
  by_cases hi : i < l.length
  · rw [decide_eq_true hi]
    have hp1 := hp.1
    have hp2 := hp.2.1
    have hlt_x : i < l.length := by omega
    obtain ⟨ad, rfl⟩ := hr.addr hlt_x
    obtain ⟨x, hx⟩ := getD_some hlt_x
    refine WL.yield_g rfl rfl rfl (Yield.move rfl rfl) ?_
    refine WL.yield_g rfl rfl rfl (Yield.ar (v' := .bool (decide (i < 10))) rfl rfl rfl rfl (bool_dec (by omega))) ?_
    refine WL.yield rfl rfl rfl (Yield.pick_t rfl rfl rfl) ?_
    refine WL.fin ?_
    refine Nm.code ?_
    refine W.cond_dec rfl (fun h10 => ?_) (fun h10 => ?_)
    · have hi9 : i ≤ 9 := by omega
      refine W.skipN ?_
      refine Nm.code ?_
      refine W.seq ?_
      refine W.block ?_
      refine W.seq ?_
      refine W.region ?_
      refine WL.yield rfl rfl rfl (Yield.move rfl rfl) ?_
      refine WL.yield rfl rfl rfl (Yield.move rfl rfl) ?_
      refine WL.yield rfl rfl rfl (Yield.indexNat i rfl rfl rfl Try.runUnderlying33 Try.sizeOf5 (by omega)) ?_
      refine WL.yield rfl rfl rfl (Yield.load (v := .int .u8 ((x.toNat : Int))) rfl rfl Try.isAgg5 (Rd.at0 (Rd.ext hr hO) hx rfl)) ?_
      refine WL.yield rfl rfl rfl (Yield.assign rfl rfl) ?_
      refine WL.fin ?_
      refine Nm.code ?_
      refine W.seq ?_
      refine W.seq ?_
      refine W.region ?_
      refine WL.yield rfl rfl rfl (Yield.move rfl rfl) ?_
      refine WL.yield rfl rfl rfl (Yield.ar (v' := .bool (decide (i = 9))) rfl rfl rfl rfl (bool_dec (by omega))) ?_
      refine WL.yield rfl rfl rfl (Yield.move rfl rfl) ?_
      by_cases h9 : i = 9
      · rw [decide_eq_true h9]
        refine WL.yield_g rfl rfl rfl (Yield.move rfl rfl) ?_
        refine WL.yield_g rfl rfl rfl (Yield.ar (v' := .bool (decide (1 < x.toNat))) rfl rfl rfl rfl (bool_dec (by omega))) ?_
        refine WL.yield rfl rfl rfl (Yield.pick_t rfl rfl rfl) ?_
        refine WL.fin ?_
        refine Nm.code ?_
        refine W.cond_dec rfl (fun hbig => ?_) (fun hbig => ?_)
        · refine W.seq ?_
          refine W.region ?_
          refine WL.yield rfl rfl rfl (Yield.assign rfl rfl) ?_
          refine WL.yield rfl rfl rfl (Yield.assign rfl rfl) ?_
          refine WL.fin ?_
          refine Nm.code ?_
          refine W.ret_post (fun _ _ h => h) Try.results118 rfl ?_
          refine ⟨hO, ?_⟩
          have hno : getL l = none := by first | exact hp.out (.inl (by omega)) | exact hp.out (.inr (by omega)) | exact hp.size_bad hi9 hx hlt hsz | exact hp.bad hi9 hx (.inr ⟨by omega, by omega⟩) | exact hp.bad hi9 hx (.inl ⟨by omega, by omega, by omega⟩)
          rw [(getL_none hno).1, (getL_none hno).2]; rfl
        · refine W.skipN ?_
          refine Nm.code ?_
          refine W.seq ?_
          refine W.region ?_
          refine WL.yield rfl rfl rfl (Yield.move rfl rfl) ?_
          refine WL.yield rfl rfl rfl (Yield.move rfl rfl) ?_
          refine WL.yield rfl rfl rfl (Yield.ar (v' := .int .u8 (((x.toNat % 128 : Nat) : Int))) rfl rfl rfl rfl (int_eq (u8_and127 x))) ?_
          refine WL.yield rfl rfl rfl ((Yield.convInt rfl rfl Try.runUnderlying5 Try.runUnderlying32).cast (v' := .int .u64 (((x.toNat % 128 : Nat) : Int))) (int_eq (wrap_u64 (by omega) (by omega)))) ?_
          refine WL.yield rfl rfl rfl (Yield.move rfl rfl) ?_
          refine WL.yield rfl rfl rfl (Yield.ar (v' := .int .i64 (7 * i)) rfl rfl rfl rfl (int_eq (wrap_i64 (by omega) (by omega)))) ?_
          refine WL.yield rfl rfl rfl ((Yield.convInt rfl rfl Try.runUnderlying3 Try.runUnderlying147).cast (v' := .int .u64 (7 * i)) (int_eq (wrap_u64 (by omega) (by omega)))) ?_
          refine WL.yield rfl rfl rfl ((Yield.shl rfl rfl rfl (by omega)).cast (int_eq (shl_nat hi9 rfl))) ?_
          refine WL.yield rfl rfl rfl (Yield.ar (v' := .int .u64 ((((n ||| (x.toNat % 128 * 128 ^ i % 18446744073709551616)) : Nat) : Int))) rfl rfl rfl rfl (int_eq (or_nat hp.2.2.1 (by omega)))) ?_
          refine WL.yield rfl rfl rfl (Yield.assign rfl rfl) ?_
          refine WL.fin ?_
          refine Nm.code ?_
          refine W.seq ?_
          refine W.region ?_
          refine WL.yield rfl rfl rfl (Yield.move rfl rfl) ?_
          refine WL.yield rfl rfl rfl (Yield.ar (v' := .bool (decide (x.toNat < 128))) rfl rfl rfl rfl (bool_dec (by omega))) ?_
          refine WL.fin ?_
          refine Nm.code ?_
          refine W.cond_dec rfl (fun hlt => ?_) (fun hlt => ?_)
          · refine W.seq ?_
            refine W.seq ?_
            refine W.region ?_
            refine WL.yield rfl rfl rfl (Yield.move rfl rfl) ?_
            refine WL.yield rfl rfl rfl (Yield.ar (v' := .bool (decide (x.toNat = 0))) rfl rfl rfl rfl (bool_dec (by omega))) ?_
            refine WL.yield rfl rfl rfl (Yield.move rfl rfl) ?_
            by_cases hz0 : x.toNat = 0
            · rw [decide_eq_true hz0]
              refine WL.yield_g rfl rfl rfl (Yield.move rfl rfl) ?_
              refine WL.yield_g rfl rfl rfl (Yield.ar (v' := .bool (decide (0 < i))) rfl rfl rfl rfl (bool_dec (by omega))) ?_
              refine WL.yield rfl rfl rfl (Yield.pick_t rfl rfl rfl) ?_
              refine WL.fin ?_
              refine Nm.code ?_
              refine W.cond_dec rfl (fun hz1 => ?_) (fun hz1 => ?_)
              · refine W.seq ?_
                refine W.region ?_
                refine WL.yield rfl rfl rfl (Yield.assign rfl rfl) ?_
                refine WL.yield rfl rfl rfl (Yield.assign rfl rfl) ?_
                refine WL.fin ?_
                refine Nm.code ?_
                refine W.ret_post (fun _ _ h => h) Try.results118 rfl ?_
                refine ⟨hO, ?_⟩
                have hno : getL l = none := by first | exact hp.out (.inl (by omega)) | exact hp.out (.inr (by omega)) | exact hp.size_bad hi9 hx hlt hsz | exact hp.bad hi9 hx (.inr ⟨by omega, by omega⟩) | exact hp.bad hi9 hx (.inl ⟨by omega, by omega, by omega⟩)
                rw [(getL_none hno).1, (getL_none hno).2]; rfl
              · refine W.skipN ?_
                refine Nm.code ?_
                refine W.seq ?_
                refine W.region ?_
                refine WL.yield rfl rfl rfl (Yield.move rfl rfl) ?_
                refine WL.yield rfl rfl rfl (Yield.move rfl rfl) ?_
                refine WL.yield rfl rfl rfl (Yield.ar (v' := .int .i64 (((i + 1 : Nat) : Int))) rfl rfl rfl rfl (int_eq (by rw [wrap_i64 (by omega) (by omega)]; omega))) ?_
                refine WL.yield rfl rfl rfl (Yield.assign rfl rfl) ?_
                refine WL.yield rfl rfl rfl (Yield.assign rfl rfl) ?_
                refine WL.fin ?_
                refine Nm.code ?_
                refine W.ret_post (fun _ _ h => h) Try.results118 rfl ?_
                refine ⟨hO, ?_⟩
                have hyes := (by first | exact hp.size_good hi9 hx hlt (by omega) (by omega) | exact (hp.good hi9 hx hlt (by omega) (by omega)).2 : getL l = some ((n ||| (x.toNat % 128 * 128 ^ i % 18446744073709551616)), i + 1))
                rw [(getL_some hyes).1, (getL_some hyes).2]; rfl
            · rw [decide_eq_false hz0]
              refine WL.skip_g rfl rfl rfl ?_
              refine WL.skip_g rfl rfl rfl ?_
              refine WL.yield rfl rfl rfl (Yield.pick_f rfl rfl rfl) ?_
              refine WL.fin ?_
              refine Nm.code ?_
              refine W.cond_false rfl ?_
              refine W.skipN ?_
              refine Nm.code ?_
              refine W.seq ?_
              refine W.region ?_
              refine WL.yield rfl rfl rfl (Yield.move rfl rfl) ?_
              refine WL.yield rfl rfl rfl (Yield.move rfl rfl) ?_
              refine WL.yield rfl rfl rfl (Yield.ar (v' := .int .i64 (((i + 1 : Nat) : Int))) rfl rfl rfl rfl (int_eq (by rw [wrap_i64 (by omega) (by omega)]; omega))) ?_
              refine WL.yield rfl rfl rfl (Yield.assign rfl rfl) ?_
              refine WL.yield rfl rfl rfl (Yield.assign rfl rfl) ?_
              refine WL.fin ?_
              refine Nm.code ?_
              refine W.ret_post (fun _ _ h => h) Try.results118 rfl ?_
              refine ⟨hO, ?_⟩
              have hyes := (by first | exact hp.size_good hi9 hx hlt (by omega) (by omega) | exact (hp.good hi9 hx hlt (by omega) (by omega)).2 : getL l = some ((n ||| (x.toNat % 128 * 128 ^ i % 18446744073709551616)), i + 1))
              rw [(getL_some hyes).1, (getL_some hyes).2]; rfl
          · refine W.skipN ?_
            refine Nm.block ?_
            refine Nm.code ?_
            refine W.region ?_
            refine WL.yield rfl rfl rfl (Yield.move rfl rfl) ?_
            refine WL.yield rfl rfl rfl (Yield.ar (v' := .int .i64 (((i + 1 : Nat) : Int))) rfl rfl rfl rfl (int_eq (by rw [wrap_i64 (by omega) (by omega)]; omega))) ?_
            refine WL.yield rfl rfl rfl (Yield.assign rfl rfl) ?_
            refine WL.fin ?_
            refine Nm.again ⟨i + 1, (n ||| (x.toNat % 128 * 128 ^ i % 18446744073709551616))⟩ (Env.has_cons rfl (Env.has_cons rfl (Env.has_cons rfl (Env.has_cons rfl (Env.has_cons rfl Env.has_nil))))) ⟨hp.next hi9 hx hlt, hE_lo1⟩ (by show l.length - (i + 1) < l.length - i; omega)
      · rw [decide_eq_false h9]
        refine WL.skip_g rfl rfl rfl ?_
        refine WL.skip_g rfl rfl rfl ?_
        refine WL.yield rfl rfl rfl (Yield.pick_f rfl rfl rfl) ?_
        refine WL.fin ?_
        refine Nm.code ?_
        refine W.cond_false rfl ?_
        refine W.skipN ?_
        refine Nm.code ?_
        refine W.seq ?_
        refine W.region ?_
        refine WL.yield rfl rfl rfl (Yield.move rfl rfl) ?_
        refine WL.yield rfl rfl rfl (Yield.move rfl rfl) ?_
        refine WL.yield rfl rfl rfl (Yield.ar (v' := .int .u8 (((x.toNat % 128 : Nat) : Int))) rfl rfl rfl rfl (int_eq (u8_and127 x))) ?_
        refine WL.yield rfl rfl rfl ((Yield.convInt rfl rfl Try.runUnderlying5 Try.runUnderlying32).cast (v' := .int .u64 (((x.toNat % 128 : Nat) : Int))) (int_eq (wrap_u64 (by omega) (by omega)))) ?_
        refine WL.yield rfl rfl rfl (Yield.move rfl rfl) ?_
        refine WL.yield rfl rfl rfl (Yield.ar (v' := .int .i64 (7 * i)) rfl rfl rfl rfl (int_eq (wrap_i64 (by omega) (by omega)))) ?_
        refine WL.yield rfl rfl rfl ((Yield.convInt rfl rfl Try.runUnderlying3 Try.runUnderlying147).cast (v' := .int .u64 (7 * i)) (int_eq (wrap_u64 (by omega) (by omega)))) ?_
        refine WL.yield rfl rfl rfl ((Yield.shl rfl rfl rfl (by omega)).cast (int_eq (shl_nat hi9 rfl))) ?_
        refine WL.yield rfl rfl rfl (Yield.ar (v' := .int .u64 ((((n ||| (x.toNat % 128 * 128 ^ i % 18446744073709551616)) : Nat) : Int))) rfl rfl rfl rfl (int_eq (or_nat hp.2.2.1 (by omega)))) ?_
        refine WL.yield rfl rfl rfl (Yield.assign rfl rfl) ?_
        refine WL.fin ?_
        refine Nm.code ?_
        refine W.seq ?_
        refine W.region ?_
        refine WL.yield rfl rfl rfl (Yield.move rfl rfl) ?_
        refine WL.yield rfl rfl rfl (Yield.ar (v' := .bool (decide (x.toNat < 128))) rfl rfl rfl rfl (bool_dec (by omega))) ?_
        refine WL.fin ?_
        refine Nm.code ?_
        refine W.cond_dec rfl (fun hlt => ?_) (fun hlt => ?_)
        · refine W.seq ?_
          refine W.seq ?_
          refine W.region ?_
          refine WL.yield rfl rfl rfl (Yield.move rfl rfl) ?_
          refine WL.yield rfl rfl rfl (Yield.ar (v' := .bool (decide (x.toNat = 0))) rfl rfl rfl rfl (bool_dec (by omega))) ?_
          refine WL.yield rfl rfl rfl (Yield.move rfl rfl) ?_
          by_cases hz0 : x.toNat = 0
          · rw [decide_eq_true hz0]
            refine WL.yield_g rfl rfl rfl (Yield.move rfl rfl) ?_
            refine WL.yield_g rfl rfl rfl (Yield.ar (v' := .bool (decide (0 < i))) rfl rfl rfl rfl (bool_dec (by omega))) ?_
            refine WL.yield rfl rfl rfl (Yield.pick_t rfl rfl rfl) ?_
            refine WL.fin ?_
            refine Nm.code ?_
            refine W.cond_dec rfl (fun hz1 => ?_) (fun hz1 => ?_)
            · refine W.seq ?_
              refine W.region ?_
              refine WL.yield rfl rfl rfl (Yield.assign rfl rfl) ?_
              refine WL.yield rfl rfl rfl (Yield.assign rfl rfl) ?_
              refine WL.fin ?_
              refine Nm.code ?_
              refine W.ret_post (fun _ _ h => h) Try.results118 rfl ?_
              refine ⟨hO, ?_⟩
              have hno : getL l = none := by first | exact hp.out (.inl (by omega)) | exact hp.out (.inr (by omega)) | exact hp.size_bad hi9 hx hlt hsz | exact hp.bad hi9 hx (.inr ⟨by omega, by omega⟩) | exact hp.bad hi9 hx (.inl ⟨by omega, by omega, by omega⟩)
              rw [(getL_none hno).1, (getL_none hno).2]; rfl
            · refine W.skipN ?_
              refine Nm.code ?_
              refine W.seq ?_
              refine W.region ?_
              refine WL.yield rfl rfl rfl (Yield.move rfl rfl) ?_
              refine WL.yield rfl rfl rfl (Yield.move rfl rfl) ?_
              refine WL.yield rfl rfl rfl (Yield.ar (v' := .int .i64 (((i + 1 : Nat) : Int))) rfl rfl rfl rfl (int_eq (by rw [wrap_i64 (by omega) (by omega)]; omega))) ?_
              refine WL.yield rfl rfl rfl (Yield.assign rfl rfl) ?_
              refine WL.yield rfl rfl rfl (Yield.assign rfl rfl) ?_
              refine WL.fin ?_
              refine Nm.code ?_
              refine W.ret_post (fun _ _ h => h) Try.results118 rfl ?_
              refine ⟨hO, ?_⟩
              have hyes := (by first | exact hp.size_good hi9 hx hlt (by omega) (by omega) | exact (hp.good hi9 hx hlt (by omega) (by omega)).2 : getL l = some ((n ||| (x.toNat % 128 * 128 ^ i % 18446744073709551616)), i + 1))
              rw [(getL_some hyes).1, (getL_some hyes).2]; rfl
          · rw [decide_eq_false hz0]
            refine WL.skip_g rfl rfl rfl ?_
            refine WL.skip_g rfl rfl rfl ?_
            refine WL.yield rfl rfl rfl (Yield.pick_f rfl rfl rfl) ?_
            refine WL.fin ?_
            refine Nm.code ?_
            refine W.cond_false rfl ?_
            refine W.skipN ?_
            refine Nm.code ?_
            refine W.seq ?_
            refine W.region ?_
            refine WL.yield rfl rfl rfl (Yield.move rfl rfl) ?_
            refine WL.yield rfl rfl rfl (Yield.move rfl rfl) ?_
            refine WL.yield rfl rfl rfl (Yield.ar (v' := .int .i64 (((i + 1 : Nat) : Int))) rfl rfl rfl rfl (int_eq (by rw [wrap_i64 (by omega) (by omega)]; omega))) ?_
            refine WL.yield rfl rfl rfl (Yield.assign rfl rfl) ?_
            refine WL.yield rfl rfl rfl (Yield.assign rfl rfl) ?_
            refine WL.fin ?_
            refine Nm.code ?_
            refine W.ret_post (fun _ _ h => h) Try.results118 rfl ?_
            refine ⟨hO, ?_⟩
            have hyes := (by first | exact hp.size_good hi9 hx hlt (by omega) (by omega) | exact (hp.good hi9 hx hlt (by omega) (by omega)).2 : getL l = some ((n ||| (x.toNat % 128 * 128 ^ i % 18446744073709551616)), i + 1))
            rw [(getL_some hyes).1, (getL_some hyes).2]; rfl
        · refine W.skipN ?_
          refine Nm.block ?_
          refine Nm.code ?_
          refine W.region ?_
          refine WL.yield rfl rfl rfl (Yield.move rfl rfl) ?_
          refine WL.yield rfl rfl rfl (Yield.ar (v' := .int .i64 (((i + 1 : Nat) : Int))) rfl rfl rfl rfl (int_eq (by rw [wrap_i64 (by omega) (by omega)]; omega))) ?_
          refine WL.yield rfl rfl rfl (Yield.assign rfl rfl) ?_
          refine WL.fin ?_
          refine Nm.again ⟨i + 1, (n ||| (x.toNat % 128 * 128 ^ i % 18446744073709551616))⟩ (Env.has_cons rfl (Env.has_cons rfl (Env.has_cons rfl (Env.has_cons rfl (Env.has_cons rfl Env.has_nil))))) ⟨hp.next hi9 hx hlt, hE_lo1⟩ (by show l.length - (i + 1) < l.length - i; omega)
    · refine W.exitX ?_
      refine Ex.thenX ?_
      refine Ex.thenX ?_
      refine Ex.hit ?_
      refine Nm.code ?_
      refine W.seq ?_
      refine W.region ?_
      refine WL.yield rfl rfl rfl (Yield.assign rfl rfl) ?_
      refine WL.yield rfl rfl rfl (Yield.assign rfl rfl) ?_
      refine WL.fin ?_
      refine Nm.code ?_
      refine W.ret_post (fun _ _ h => h) Try.results118 rfl ?_
      refine ⟨hO, ?_⟩
      have hno : getL l = none := by first | exact hp.out (.inl (by omega)) | exact hp.out (.inr (by omega)) | exact hp.size_bad hi9 hx hlt hsz | exact hp.bad hi9 hx (.inr ⟨by omega, by omega⟩) | exact hp.bad hi9 hx (.inl ⟨by omega, by omega, by omega⟩)
      rw [(getL_none hno).1, (getL_none hno).2]; rfl
  · rw [decide_eq_false hi]
    refine WL.skip_g rfl rfl rfl ?_
    refine WL.skip_g rfl rfl rfl ?_
    refine WL.yield rfl rfl rfl (Yield.pick_f rfl rfl rfl) ?_
    refine WL.fin ?_
    refine Nm.code ?_
    refine W.cond_false rfl ?_
    refine W.exitX ?_
    refine Ex.thenX ?_
    refine Ex.thenX ?_
    refine Ex.hit ?_
    refine Nm.code ?_
    refine W.seq ?_
    refine W.region ?_
    refine WL.yield rfl rfl rfl (Yield.assign rfl rfl) ?_
    refine WL.yield rfl rfl rfl (Yield.assign rfl rfl) ?_
    refine WL.fin ?_
    refine Nm.code ?_
    refine W.ret_post (fun _ _ h => h) Try.results118 rfl ?_
    refine ⟨hO, ?_⟩
    have hno : getL l = none := by first | exact hp.out (.inl (by omega)) | exact hp.out (.inr (by omega)) | exact hp.size_bad hi9 hx hlt hsz | exact hp.bad hi9 hx (.inr ⟨by omega, by omega⟩) | exact hp.bad hi9 hx (.inl ⟨by omega, by omega, by omega⟩)
    rw [(getL_none hno).1, (getL_none hno).2]; rfl

theorem put_any (w : World) (A : Option Addr) (c : Nat) (l : List UInt8) (hr : Rd encB w A l) (n : Nat) (h : n < 18446744073709551616) (hlen : l.length ≤ 140737488355000) :
    Fc Try.prog 120 #[.slice (A) (l.length) (c), .int .u64 ((n : Int))] w (fun v w' => Ext w w' ∧ NwSl w.heap.size encB 5 (l ++ lebL n) v w') := by
  refine Fc.enter (args := [.slice (A) (l.length) (c), .int .u64 ((n : Int))]) Try.func120 rfl Try.ntmps120 rfl ?_
  intro K_
  have hO : Only (fun _ => False) w w := Only.refl _ _
  refine W.seq ?_
  refine W.region ?_
  refine WL.yield rfl rfl rfl (Yield.assign rfl rfl) ?_
  refine WL.fin ?_
  refine Nm.code ?_
  refine W.seq ?_
  refine W.region ?_
  refine WL.yield rfl rfl rfl (Yield.move rfl rfl) ?_
  have hv0 : Nw w.heap.size encB 5 [] (.slice none 0 0) w := Nw.nil _ _ _ _
  refine WL.eff _ rfl rfl (Eff.push (E := encB) (xs := []) (ys := l) (bytes := 1) (i := Try.t5) (z := .int .u8 (0)) rfl rfl rfl rfl Try.underlying33 Try.underlying33 (by kernel_rfl) rfl rfl rfl rfl hO hO.size (Nat.le_refl _) hv0 (hr.ext hO) rfl (by show (0 + l.length) * 1 ≤ _; omega)) ?_
  rintro v_v w1 ⟨hO, hv_v, ho_w1⟩
  obtain ⟨A_v, c_v, rfl, hc_v, hv_v⟩ := hv_v.toSl
  refine WL.yield rfl rfl rfl (Yield.assign rfl rfl) ?_
  refine WL.fin ?_
  refine Nm.code ?_
  refine W.seq ?_
  refine W.block ?_
  refine W.loop (σ := Nat × Nat × List UInt8 × Option Addr × Nat) (fun ⟨k, m, acc, A_v, c_v⟩ => [(4, .slice (none) (0) (0)), (5, .slice (A_v) (acc.length) (c_v)), (1, .int .u64 ((m : Int)))]) (fun ⟨k, m, acc, A_v, c_v⟩ ww => ((m < 128 ^ (k + 1) ∧ acc ++ lebF k m = l ++ lebL n) ∧ Only (fun _ => False) w ww ∧ Nw w.heap.size encB 5 acc (.slice A_v acc.length c_v) ww)) (fun ⟨k, m, acc, A_v, c_v⟩ => m) ⟨9, n, [] ++ l, A_v, c_v⟩ (Env.has_cons rfl (Env.has_cons rfl (Env.has_cons rfl Env.has_nil))) ⟨⟨Nat.lt_of_lt_of_le h pow10, rfl⟩, hO, hv_v⟩ ?_
  clear hO hv_v
  rintro ⟨k, m, acc, A_v, c_v⟩ w2 ⟨hp, hO, hv_v⟩
  refine W.seq ?_
  refine W.seq ?_
  refine W.region ?_
  refine WL.yield rfl rfl rfl (Yield.move rfl rfl) ?_
  refine WL.yield rfl rfl rfl (Yield.ar (v' := .bool (decide (¬ m < 128))) rfl rfl rfl rfl (bool_dec (by omega))) ?_
  refine WL.fin ?_
  refine Nm.code ?_
  refine W.cond_dec rfl (fun hc0 => ?_) (fun hc0 => ?_)
  · obtain ⟨j, rfl, he, hj⟩ := lebF_more (by omega) hp.1
    refine W.skipN ?_
    refine Nm.code ?_
    refine W.block ?_
    refine W.seq ?_
    refine W.region ?_
    refine WL.yield rfl rfl rfl (Yield.move rfl rfl) ?_
    refine WL.yield rfl rfl rfl (Yield.move rfl rfl) ?_
    refine WL.yield rfl rfl rfl ((Yield.convInt rfl rfl Try.runUnderlying32 Try.runUnderlying5).cast (v' := .int .u8 (((UInt8.ofNat m).toNat : Int))) (int_eq (u8_conv m))) ?_
    refine WL.yield rfl rfl rfl (Yield.ar (v' := .int .u8 (((UInt8.ofNat (m % 128 + 128)).toNat : Int))) rfl rfl rfl rfl (int_eq (Go.Shoal.u8_or128 m))) ?_
    refine WL.eff _ rfl rfl (Eff.buildSlice (cs := [.int .u8 (((UInt8.ofNat (m % 128 + 128)).toNat : Int))]) [.int .u8 (((UInt8.ofNat (m % 128 + 128)).toNat : Int))] rfl rfl Try.runUnderlying33 Try.sizeOf5 Try.zeroValue5 rfl rfl rfl (List.forall_mem_cons.2 ⟨rfl, (fun _ h => nomatch h)⟩) rfl) ?_
    rintro _ w3 ⟨_, b1, rfl, hs_b1, rfl, he_w3⟩
    have hb_b1 : w3.heap[b1]? = some (.cells #[.int .u8 (((UInt8.ofNat (m % 128 + 128)).toNat : Int))] 5 (0, 0)) := by rw [he_w3, hs_b1]; exact new_get _ _
    have ho_w3 : Ext w2 w3 := by rw [he_w3]; exact Ext.alloc _ _
    clear he_w3
    have hn_b1 : w.heap.size ≤ b1 := by rw [hs_b1]; exact hO.size
    have hl_hv_v_b1 := Nw.below hv_v (Nat.le_of_eq hs_b1.symm)
    replace hO := hO.ext ho_w3
    replace hv_v := hv_v.ext ho_w3
    refine WL.eff _ rfl rfl (Eff.push (E := encB) (xs := acc) (ys := [UInt8.ofNat (m % 128 + 128)]) (bytes := 1) (i := Try.t5) (z := .int .u8 (0)) rfl rfl rfl rfl Try.underlying33 Try.underlying33 (by kernel_rfl) rfl rfl rfl rfl hO hO.size (Nat.le_refl _) hv_v (blk_rd (E := encB) (l := [UInt8.ofNat (m % 128 + 128)]) hb_b1 rfl) rfl (by have h1 := congrArg List.length hp.2; simp only [List.length_append] at h1; have h2 := lebL_le n; have h3 := lebF_pos (j + 1) m; show (acc.length + 1) * 1 ≤ _; omega)) ?_
    rintro v_v2 w4 ⟨hO, hv_v2, ho_w4⟩
    obtain ⟨A_v2, c_v2, rfl, hc_v2, hv_v2⟩ := hv_v2.toSl
    refine WL.yield rfl rfl rfl (Yield.assign rfl rfl) ?_
    refine WL.fin ?_
    refine Nm.code ?_
    refine W.region ?_
    refine WL.yield rfl rfl rfl (Yield.move rfl rfl) ?_
    refine WL.yield rfl rfl rfl ((Yield.shr rfl rfl rfl (by omega)).cast (int_eq (shr7 m))) ?_
    refine WL.yield rfl rfl rfl (Yield.assign rfl rfl) ?_
    refine WL.fin ?_
    refine Nm.block ?_
    have hv_v := hv_v2
    refine Nm.again ⟨j, m / 128, acc ++ [UInt8.ofNat (m % 128 + 128)], A_v2, c_v2⟩ (Env.has_cons rfl (Env.has_cons rfl (Env.has_cons rfl Env.has_nil))) ⟨⟨hj, by have h2 := hp.2; rw [he] at h2; simpa using h2⟩, hO, hv_v⟩ (by show m / 128 < m; omega)
  · refine W.exitX ?_
    refine Ex.thenX ?_
    refine Ex.thenX ?_
    refine Ex.hit ?_
    refine Nm.code ?_
    refine W.seq ?_
    refine W.region ?_
    refine WL.yield rfl rfl rfl (Yield.move rfl rfl) ?_
    refine WL.yield rfl rfl rfl (Yield.move rfl rfl) ?_
    refine WL.yield rfl rfl rfl ((Yield.convInt rfl rfl Try.runUnderlying32 Try.runUnderlying5).cast (v' := .int .u8 (((UInt8.ofNat m).toNat : Int))) (int_eq (u8_conv m))) ?_
    refine WL.eff _ rfl rfl (Eff.buildSlice (cs := [.int .u8 (((UInt8.ofNat m).toNat : Int))]) [.int .u8 (((UInt8.ofNat m).toNat : Int))] rfl rfl Try.runUnderlying33 Try.sizeOf5 Try.zeroValue5 rfl rfl rfl (List.forall_mem_cons.2 ⟨rfl, (fun _ h => nomatch h)⟩) rfl) ?_
    rintro _ w5 ⟨_, b2, rfl, hs_b2, rfl, he_w5⟩
    have hb_b2 : w5.heap[b2]? = some (.cells #[.int .u8 (((UInt8.ofNat m).toNat : Int))] 5 (0, 0)) := by rw [he_w5, hs_b2]; exact new_get _ _
    have ho_w5 : Ext w2 w5 := by rw [he_w5]; exact Ext.alloc _ _
    clear he_w5
    have hn_b2 : w.heap.size ≤ b2 := by rw [hs_b2]; exact hO.size
    have hl_hv_v_b2 := Nw.below hv_v (Nat.le_of_eq hs_b2.symm)
    replace hO := hO.ext ho_w5
    replace hv_v := hv_v.ext ho_w5
    refine WL.eff _ rfl rfl (Eff.push (E := encB) (xs := acc) (ys := [UInt8.ofNat m]) (bytes := 1) (i := Try.t5) (z := .int .u8 (0)) rfl rfl rfl rfl Try.underlying33 Try.underlying33 (by kernel_rfl) rfl rfl rfl rfl hO hO.size (Nat.le_refl _) hv_v (blk_rd (E := encB) (l := [UInt8.ofNat m]) hb_b2 rfl) rfl (by have h1 := congrArg List.length hp.2; simp only [List.length_append] at h1; have h2 := lebL_le n; have h3 := lebF_pos k m; show (acc.length + 1) * 1 ≤ _; omega)) ?_
    rintro v_v3 w6 ⟨hO, hv_v3, ho_w6⟩
    obtain ⟨A_v3, c_v3, rfl, hc_v3, hv_v3⟩ := hv_v3.toSl
    refine WL.yield rfl rfl rfl (Yield.assign rfl rfl) ?_
    refine WL.fin ?_
    refine Nm.code ?_
    refine W.ret_post (fun _ _ h => h) Try.results120 rfl ?_
    have hacc : acc ++ [UInt8.ofNat m] = l ++ lebL n := by rw [← hp.2, lebF_small (by omega)]
    rw [hacc] at hv_v3 ⊢
    exact ⟨hO, hv_v3.toSl⟩

theorem rput_any (w : World) (A : Option Addr) (c : Nat) (l : List UInt8) (hr : Rd encB w A l) (n : Nat) (h : n < 18446744073709551616) (hlen : l.length ≤ 140737488355000) :
    Fc Try.prog 123 #[.slice (A) (l.length) (c), .int .u64 ((n : Int))] w (fun v w' => Ext w w' ∧ NwSl w.heap.size encB 5 (l ++ lebL n) v w') := by
  refine Fc.enter (args := [.slice (A) (l.length) (c), .int .u64 ((n : Int))]) Try.func123 rfl Try.ntmps123 rfl ?_
  intro K_
  have hO : Only (fun _ => False) w w := Only.refl _ _
  refine W.seq ?_
  refine W.region ?_
  refine WL.yield rfl rfl rfl (Yield.assign rfl rfl) ?_
  refine WL.fin ?_
  refine Nm.code ?_
  refine W.seq ?_
  refine W.region ?_
  refine WL.eff _ rfl rfl (Eff.buildEmpty rfl Try.runUnderlying33 Try.sizeOf5) ?_
  rintro _ w1 ⟨_, b1, rfl, hs_b1, rfl, he_w1⟩
  have hb_b1 : w1.heap[b1]? = some (.cells #[] 5 (0, 0)) := by rw [he_w1, hs_b1]; exact new_get _ _
  have ho_w1 : Ext w w1 := by rw [he_w1]; exact Ext.alloc _ _
  clear he_w1
  have hn_b1 : w.heap.size ≤ b1 := by rw [hs_b1]; exact hO.size
  replace hO := hO.ext ho_w1
  refine WL.yield rfl rfl rfl (Yield.move rfl rfl) ?_
  have hv0 : Nw w.heap.size encB 5 [] (.slice (some ⟨b1, 0, none⟩) 0 0) w1 := ⟨Own.fresh hb_b1 rfl (by decide), fun b hb => by simp only [Value.ownBlock, Option.some.injEq] at hb; omega⟩
  refine WL.eff _ rfl rfl (Eff.push (E := encB) (xs := []) (ys := l) (bytes := 1) (i := Try.t5) (z := .int .u8 (0)) rfl rfl rfl rfl Try.underlying33 Try.underlying33 (by kernel_rfl) rfl rfl rfl rfl hO hO.size (Nat.le_refl _) hv0 (hr.ext hO) rfl (by show (0 + l.length) * 1 ≤ _; omega)) ?_
  rintro v_v w2 ⟨hO, hv_v, ho_w2⟩
  obtain ⟨A_v, c_v, rfl, hc_v, hv_v⟩ := hv_v.toSl
  refine WL.yield rfl rfl rfl (Yield.assign rfl rfl) ?_
  refine WL.fin ?_
  refine Nm.code ?_
  refine W.seq ?_
  refine W.block ?_
  refine W.loop (σ := Nat × Nat × List UInt8 × Option Addr × Nat) (fun ⟨k, m, acc, A_v, c_v⟩ => [(4, .slice (none) (0) (0)), (0, .slice (A_v) (acc.length) (c_v)), (1, .int .u64 ((m : Int)))]) (fun ⟨k, m, acc, A_v, c_v⟩ ww => ((m < 128 ^ (k + 1) ∧ acc ++ lebF k m = l ++ lebL n ∧ m < 18446744073709551616) ∧ Only (fun _ => False) w ww ∧ Nw w.heap.size encB 5 acc (.slice A_v acc.length c_v) ww)) (fun ⟨k, m, acc, A_v, c_v⟩ => m) ⟨9, n, [] ++ l, A_v, c_v⟩ (Env.has_cons rfl (Env.has_cons rfl (Env.has_cons rfl Env.has_nil))) ⟨⟨Nat.lt_of_lt_of_le h pow10, rfl, h⟩, hO, hv_v⟩ ?_
  clear hO hv_v
  rintro ⟨k, m, acc, A_v, c_v⟩ w3 ⟨hp, hO, hv_v⟩
  refine W.seq ?_
  refine W.seq ?_
  refine W.region ?_
  refine WL.yield rfl rfl rfl (Yield.move rfl rfl) ?_
  refine WL.yield rfl rfl rfl (Yield.ar (v' := .bool (decide (¬ m < 128))) rfl rfl rfl rfl (bool_dec (by omega))) ?_
  refine WL.fin ?_
  refine Nm.code ?_
  refine W.cond_dec rfl (fun hc0 => ?_) (fun hc0 => ?_)
  · have hm64 := hp.2.2
    obtain ⟨j, rfl, he, hj⟩ := lebF_more (by omega) hp.1
    refine W.skipN ?_
    refine Nm.code ?_
    refine W.block ?_
    refine W.seq ?_
    refine W.region ?_
    refine WL.yield rfl rfl rfl (Yield.move rfl rfl) ?_
    refine WL.yield rfl rfl rfl (Yield.move rfl rfl) ?_
    refine WL.yield rfl rfl rfl ((Yield.rem rfl rfl rfl (by omega)).cast (int_eq (rem128 m))) ?_
    refine WL.yield rfl rfl rfl ((Yield.convInt rfl rfl Try.runUnderlying32 Try.runUnderlying5).cast (v' := .int .u8 (((UInt8.ofNat (m % 128)).toNat : Int))) (int_eq (u8_conv _))) ?_
    refine WL.yield rfl rfl rfl (Yield.ar (v' := .int .u8 (((UInt8.ofNat (m % 128 + 128)).toNat : Int))) rfl rfl rfl rfl ((int_eq (u8_add128 m)))) ?_
    refine WL.eff _ rfl rfl (Eff.buildSlice (cs := [.int .u8 (((UInt8.ofNat (m % 128 + 128)).toNat : Int))]) [.int .u8 (((UInt8.ofNat (m % 128 + 128)).toNat : Int))] rfl rfl Try.runUnderlying33 Try.sizeOf5 Try.zeroValue5 rfl rfl rfl (List.forall_mem_cons.2 ⟨rfl, (fun _ h => nomatch h)⟩) rfl) ?_
    rintro _ w4 ⟨_, b2, rfl, hs_b2, rfl, he_w4⟩
    have hb_b2 : w4.heap[b2]? = some (.cells #[.int .u8 (((UInt8.ofNat (m % 128 + 128)).toNat : Int))] 5 (0, 0)) := by rw [he_w4, hs_b2]; exact new_get _ _
    have ho_w4 : Ext w3 w4 := by rw [he_w4]; exact Ext.alloc _ _
    clear he_w4
    have hn_b2 : w.heap.size ≤ b2 := by rw [hs_b2]; exact hO.size
    have hl_hv_v_b2 := Nw.below hv_v (Nat.le_of_eq hs_b2.symm)
    replace hO := hO.ext ho_w4
    replace hv_v := hv_v.ext ho_w4
    refine WL.eff _ rfl rfl (Eff.push (E := encB) (xs := acc) (ys := [UInt8.ofNat (m % 128 + 128)]) (bytes := 1) (i := Try.t5) (z := .int .u8 (0)) rfl rfl rfl rfl Try.underlying33 Try.underlying33 (by kernel_rfl) rfl rfl rfl rfl hO hO.size (Nat.le_refl _) hv_v (blk_rd (E := encB) (l := [UInt8.ofNat (m % 128 + 128)]) hb_b2 rfl) rfl (by have h1 := congrArg List.length hp.2.1; simp only [List.length_append] at h1; have h2 := lebL_le n; have h3 := lebF_pos (j + 1) m; show (acc.length + 1) * 1 ≤ _; omega)) ?_
    rintro v_v2 w5 ⟨hO, hv_v2, ho_w5⟩
    obtain ⟨A_v2, c_v2, rfl, hc_v2, hv_v2⟩ := hv_v2.toSl
    refine WL.yield rfl rfl rfl (Yield.assign rfl rfl) ?_
    refine WL.fin ?_
    refine Nm.code ?_
    refine W.region ?_
    refine WL.yield rfl rfl rfl (Yield.move rfl rfl) ?_
    refine WL.yield rfl rfl rfl ((Yield.quo rfl rfl rfl (by omega)).cast (int_eq (quo128 hm64))) ?_
    refine WL.yield rfl rfl rfl (Yield.assign rfl rfl) ?_
    refine WL.fin ?_
    refine Nm.block ?_
    have hv_v := hv_v2
    refine Nm.again ⟨j, m / 128, acc ++ [UInt8.ofNat (m % 128 + 128)], A_v2, c_v2⟩ (Env.has_cons rfl (Env.has_cons rfl (Env.has_cons rfl Env.has_nil))) ⟨⟨hj, by have h2 := hp.2.1; rw [he] at h2; simpa using h2, by omega⟩, hO, hv_v⟩ (by show m / 128 < m; omega)
  · refine W.exitX ?_
    refine Ex.thenX ?_
    refine Ex.thenX ?_
    refine Ex.hit ?_
    refine Nm.code ?_
    refine W.seq ?_
    refine W.region ?_
    refine WL.yield rfl rfl rfl (Yield.move rfl rfl) ?_
    refine WL.yield rfl rfl rfl (Yield.move rfl rfl) ?_
    refine WL.yield rfl rfl rfl ((Yield.convInt rfl rfl Try.runUnderlying32 Try.runUnderlying5).cast (v' := .int .u8 (((UInt8.ofNat m).toNat : Int))) (int_eq (u8_conv m))) ?_
    refine WL.eff _ rfl rfl (Eff.buildSlice (cs := [.int .u8 (((UInt8.ofNat m).toNat : Int))]) [.int .u8 (((UInt8.ofNat m).toNat : Int))] rfl rfl Try.runUnderlying33 Try.sizeOf5 Try.zeroValue5 rfl rfl rfl (List.forall_mem_cons.2 ⟨rfl, (fun _ h => nomatch h)⟩) rfl) ?_
    rintro _ w6 ⟨_, b3, rfl, hs_b3, rfl, he_w6⟩
    have hb_b3 : w6.heap[b3]? = some (.cells #[.int .u8 (((UInt8.ofNat m).toNat : Int))] 5 (0, 0)) := by rw [he_w6, hs_b3]; exact new_get _ _
    have ho_w6 : Ext w3 w6 := by rw [he_w6]; exact Ext.alloc _ _
    clear he_w6
    have hn_b3 : w.heap.size ≤ b3 := by rw [hs_b3]; exact hO.size
    have hl_hv_v_b3 := Nw.below hv_v (Nat.le_of_eq hs_b3.symm)
    replace hO := hO.ext ho_w6
    replace hv_v := hv_v.ext ho_w6
    refine WL.eff _ rfl rfl (Eff.push (E := encB) (xs := acc) (ys := [UInt8.ofNat m]) (bytes := 1) (i := Try.t5) (z := .int .u8 (0)) rfl rfl rfl rfl Try.underlying33 Try.underlying33 (by kernel_rfl) rfl rfl rfl rfl hO hO.size (Nat.le_refl _) hv_v (blk_rd (E := encB) (l := [UInt8.ofNat m]) hb_b3 rfl) rfl (by have h1 := congrArg List.length hp.2.1; simp only [List.length_append] at h1; have h2 := lebL_le n; have h3 := lebF_pos k m; show (acc.length + 1) * 1 ≤ _; omega)) ?_
    rintro v_v3 w7 ⟨hO, hv_v3, ho_w7⟩
    obtain ⟨A_v3, c_v3, rfl, hc_v3, hv_v3⟩ := hv_v3.toSl
    refine WL.yield rfl rfl rfl (Yield.assign rfl rfl) ?_
    refine WL.fin ?_
    refine Nm.code ?_
    refine W.ret_post (fun _ _ h => h) Try.results123 rfl ?_
    have hacc : acc ++ [UInt8.ofNat m] = l ++ lebL n := by rw [← hp.2.1, lebF_small (by omega)]
    rw [hacc] at hv_v3 ⊢
    exact ⟨hO, hv_v3.toSl⟩

end Go.Proofs.Ytpnoddfjklcahaa
