import Derived.Test.YtpnoddfjklcahaaTr12
import Derived.Test.YtpnoddfjklcahaaTr4

set_option linter.all false
namespace Go.Proofs.Ytpnoddfjklcahaa
open Go Go.Lv Go.RowKit Go.Shoal


theorem map_step {l : List En} {f : En → En} {i : Nat} {x : En} (hx : l[i]? = some x) : (l.take (i + 1)).map f = (l.take i).map f ++ [f x] := by
  rw [take_one hx, List.map_append]; rfl

theorem rbut_any (w : World) (A : Option Addr) (c : Nat) (l : List En) (hr : Rd encEn w A l) (hlen : l.length ≤ 100000) (hcap : l.length ≤ c) (to : BitVec 64) (d : Int) :
    Fc Try.prog 38 #[.slice (A) (l.length) (c), .int .u64 ((to.toNat : Int)), .int .i64 (d)] w (fun v w' => Ext w w' ∧ Sl encEn (butR l to d) v w') := by
  refine Fc.enter (args := [.slice (A) (l.length) (c), .int .u64 ((to.toNat : Int)), .int .i64 (d)]) Try.func38 rfl Try.ntmps38 rfl ?_
  intro K_
  have hO : Only (fun _ => False) w w := Only.refl _ _
  refine W.seq ?_
  refine W.region ?_
  refine WL.yield rfl rfl rfl (Yield.assign rfl rfl) ?_
  refine WL.fin ?_
  refine Nm.code ?_
  refine W.seq ?_
  refine W.seq ?_
  refine W.region ?_
  refine WL.yield rfl rfl rfl (Yield.move rfl rfl) ?_
  refine WL.eff _ rfl rfl (Eff.fn rfl rfl Try.call34 (by rintro _ rfl; exact rgood_any _ _ _ _ (hr.ext hO) (by omega))) ?_
  have hz_w := hO.size
  rintro _ w1 ⟨ho_w1, rfl⟩
  replace hO := hO.ext ho_w1
  refine WL.yield rfl rfl rfl (Yield.not rfl rfl) ?_
  refine WL.fin ?_
  refine Nm.code ?_
  refine W.cond rfl (fun hc0 => ?_) (fun hc0 => ?_)
  · refine W.seq ?_
    refine W.region ?_
    refine WL.yield rfl rfl rfl (Yield.move rfl rfl) ?_
    refine WL.yield rfl rfl rfl (Yield.assign rfl rfl) ?_
    refine WL.fin ?_
    refine Nm.code ?_
    refine W.ret_post (fun _ _ h => h) Try.results38 rfl ?_
    have e : butR l to d = l := by unfold butR; rw [if_neg]; simp_all
    rw [e]
    exact ⟨hO, _, _, rfl, hcap, hr.ext hO⟩
  · have hgood : good l = true := by simpa using hc0
    obtain ⟨m, hm⟩ : ∃ m, m = butM to d := ⟨_, rfl⟩
    refine W.skipN ?_
    refine Nm.code ?_
    have hz_w1 := hO.size
    have hE_lo1 : Only (fun k => False) w1 w1 := Only.refl _ _
    refine W.seq_cut (σ := Nat) (fun z9 => [(0, .slice (A) (l.length) (c)), (2, .int .i64 (d)), (6, .slice (none) (0) (0)), (11, .bool (!(good l))), (1, .int .u64 ((m.toNat : Int)))]) (fun z9 ww => ((True) ∧ Only (fun _ => False) w ww ∧ Only (fun k => False) w1 ww)) ?_ ?_
    · refine W.seq ?_
      refine W.region ?_
      refine WL.yield rfl rfl rfl (Yield.move rfl rfl) ?_
      refine WL.yield rfl rfl rfl (Yield.ar (v' := .bool (decide (d ≥ 0))) rfl rfl rfl rfl (bool_dec (by omega))) ?_
      refine WL.yield rfl rfl rfl (Yield.move rfl rfl) ?_
      by_cases h31 : d ≥ 0
      · rw [decide_eq_true h31]
        refine WL.yield_g rfl rfl rfl (Yield.move rfl rfl) ?_
        refine WL.yield_g rfl rfl rfl (Yield.ar (v' := .bool (decide (d ≤ 63))) rfl rfl rfl rfl (bool_dec (by omega))) ?_
        refine WL.yield rfl rfl rfl (Yield.pick_t rfl rfl rfl) ?_
        refine WL.fin ?_
        refine Nm.code ?_
        refine W.cond_dec rfl (fun hc1 => ?_) (fun hc1 => ?_)
        · refine W.region ?_
          refine WL.yield rfl rfl rfl (Yield.move rfl rfl) ?_
          refine WL.yield rfl rfl rfl (Yield.move rfl rfl) ?_
          refine WL.yield rfl rfl rfl ((Yield.convInt rfl rfl Try.runUnderlying3 Try.runUnderlying147).cast (v' := .int .u64 (d)) (int_eq (wrap_u64 (by omega) (by omega)))) ?_
          refine WL.yield rfl rfl rfl ((Yield.shl rfl rfl rfl (by omega)).cast (int_eq (shl_n (by omega) (by omega)))) ?_
          refine WL.yield rfl rfl rfl (Yield.ar (v' := .int .u64 (((to &&& ~~~ (BitVec.ofNat 64 (2 ^ d.toNat))).toNat : Int))) rfl rfl rfl rfl (int_eq (bv_andNot _ _))) ?_
          refine WL.yield rfl rfl rfl (Yield.assign rfl rfl) ?_
          refine WL.fin ?_
          have he : m = to &&& ~~~ (BitVec.ofNat 64 (2 ^ d.toNat)) := hm.trans (by unfold butM; rw [if_pos (by omega)])
          subst he
          refine Nm.meet 0 (Env.has_cons rfl (Env.has_cons rfl (Env.has_cons rfl (Env.has_cons rfl (Env.has_cons rfl Env.has_nil))))) ⟨trivial, hO, hE_lo1⟩
        · refine W.skipN ?_
          have he : m = to := hm.trans (by unfold butM; rw [if_neg (by omega)])
          subst he
          refine Nm.meet 0 (Env.has_cons rfl (Env.has_cons rfl (Env.has_cons rfl (Env.has_cons rfl (Env.has_cons rfl Env.has_nil))))) ⟨trivial, hO, hE_lo1⟩
      · rw [decide_eq_false h31]
        refine WL.skip_g rfl rfl rfl ?_
        refine WL.skip_g rfl rfl rfl ?_
        refine WL.yield rfl rfl rfl (Yield.pick_f rfl rfl rfl) ?_
        refine WL.fin ?_
        refine Nm.code ?_
        refine W.cond_false rfl ?_
        refine W.skipN ?_
        have he : m = to := hm.trans (by unfold butM; rw [if_neg (by omega)])
        subst he
        refine Nm.meet 0 (Env.has_cons rfl (Env.has_cons rfl (Env.has_cons rfl (Env.has_cons rfl (Env.has_cons rfl Env.has_nil))))) ⟨trivial, hO, hE_lo1⟩
    clear hO hE_lo1
    rintro z9 w2 ⟨hm1, hO, hE_lo1⟩
    refine W.seq ?_
    refine W.region ?_
    refine WL.yield rfl rfl rfl (Yield.assign rfl rfl) ?_
    refine WL.fin ?_
    refine Nm.code ?_
    refine W.seq ?_
    refine W.seq ?_
    refine W.region ?_
    refine WL.yield rfl rfl rfl (Yield.assign rfl rfl) ?_
    refine WL.fin ?_
    refine Nm.code ?_
    refine W.block ?_
    have hz_w2 := hO.size
    refine W.loop (σ := Nat × Option Addr × Nat) (fun ⟨i, A_v, c_v⟩ => [(0, .slice (A) (l.length) (c)), (6, .slice (none) (0) (0)), (11, .bool (!(good l))), (1, .int .u64 ((m.toNat : Int))), (8, .int .i64 (i)), (7, .slice (A_v) (((l.take i).map (lessE m)).length) (c_v))]) (fun ⟨i, A_v, c_v⟩ ww => ((i ≤ l.length) ∧ Ext w2 ww ∧ Nw w2.heap.size encEn 66 ((l.take i).map (lessE m)) (.slice A_v ((l.take i).map (lessE m)).length c_v) ww)) (fun ⟨i, A_v, c_v⟩ => (l.length - i)) ⟨0, none, 0⟩ (Env.has_cons rfl (Env.has_cons rfl (Env.has_cons rfl (Env.has_cons rfl (Env.has_cons rfl (Env.has_cons rfl Env.has_nil)))))) ⟨Nat.zero_le _, Ext.refl _, Nw.nil _ _ _ _⟩ ?_
    rintro ⟨i, A_v, c_v⟩ w3 ⟨hp, hE_lo2, hv_v⟩
    have hO_lo2 := hO
    replace hO := hO_lo2.ext hE_lo2
    refine W.seq ?_
    refine W.seq ?_
    refine W.region ?_
    refine WL.yield rfl rfl rfl (Yield.move rfl rfl) ?_
    refine WL.yield rfl rfl rfl (Yield.move rfl rfl) ?_
    refine WL.yield rfl rfl rfl (Yield.lenSlice rfl rfl Try.runUnderlying45) ?_
    refine WL.yield rfl rfl rfl (Yield.bin rfl rfl rfl rfl) ?_
    refine WL.fin ?_
    refine Nm.code ?_
    refine W.cond_dec rfl (fun hi => ?_) (fun hi => ?_)
    · have hlt_x : i < l.length := by omega
      obtain ⟨ad, rfl⟩ := hr.addr hlt_x
      obtain ⟨x, hx⟩ := getD_some hlt_x
      refine W.skipN ?_
      refine Nm.code ?_
      refine W.seq ?_
      refine W.block ?_
      have hz_w3 := hO.size
      refine W.region_flat 20 Try_follows (by kernel_rfl) (by kernel_rfl) rfl ?_
      refine FL.run (i := 0) [] false (fun v_ _ => v_ = .slice (A_v) (((l.take i).map (lessE m)).length) (c_v)) rfl rfl rfl (by kernel_rfl) (Stable.eq _) ?_ ?_
      · intro wb1 ho_wb1
        exact And.intro rfl (Eff.reads (Yield.move rfl rfl) rfl)
      refine FL.run (i := 1) [] false (fun v_ _ => v_ = .slice (some ad) (l.length) (c)) rfl rfl rfl (by kernel_rfl) (Stable.eq _) ?_ ?_
      · intro wb1 ho_wb1
        exact And.intro rfl (Eff.reads (Yield.move rfl rfl) rfl)
      refine FL.run (i := 2) [] false (fun v_ _ => v_ = .int .i64 (i)) rfl rfl rfl (by kernel_rfl) (Stable.eq _) ?_ ?_
      · intro wb1 ho_wb1
        exact And.intro rfl (Eff.reads (Yield.move rfl rfl) rfl)
      refine FL.run (i := 3) [1, 2] false (fun v_ _ => v_ = .pointer (some ((ad).add (i * 3)))) rfl rfl rfl (by kernel_rfl) (Stable.eq _) ?_ ?_
      · intro wb1 ho_wb1
        rintro _ rfl
        rintro _ rfl
        exact And.intro rfl (Eff.reads (Yield.indexNat i rfl rfl rfl Try.runUnderlying45 Try.sizeOf66 (by omega)) rfl)
      refine FL.run (i := 4) [3] false (fun v_ _ => v_ = .pointer (some (((ad).add (i * 3)).add 0))) rfl rfl rfl (by kernel_rfl) (Stable.eq _) ?_ ?_
      · intro wb1 ho_wb1
        rintro _ rfl
        exact And.intro rfl (Eff.reads (Yield.fieldAddr rfl rfl Try.runUnderlying66 rfl Try.sizeOf3) rfl)
      refine FL.run (i := 5) [4] false (fun v_ _ => v_ = .int .i64 (x.f)) rfl rfl rfl (by kernel_rfl) (Stable.eq _) ?_ ?_
      · intro wb1 ho_wb1
        rintro _ rfl
        have hO := hO.ext ho_wb1
        exact And.intro rfl (Eff.reads (Yield.load (v := .int .i64 (x.f)) rfl rfl Try.isAgg3 (Rd.at0 (Rd.ext hr hO) hx rfl)) rfl)
      refine FL.run (i := 6) [] false (fun v_ _ => v_ = .slice (some ad) (l.length) (c)) rfl rfl rfl (by kernel_rfl) (Stable.eq _) ?_ ?_
      · intro wb1 ho_wb1
        exact And.intro rfl (Eff.reads (Yield.move rfl rfl) rfl)
      refine FL.run (i := 7) [] false (fun v_ _ => v_ = .int .i64 (i)) rfl rfl rfl (by kernel_rfl) (Stable.eq _) ?_ ?_
      · intro wb1 ho_wb1
        exact And.intro rfl (Eff.reads (Yield.move rfl rfl) rfl)
      refine FL.run (i := 8) [6, 7] false (fun v_ _ => v_ = .pointer (some ((ad).add (i * 3)))) rfl rfl rfl (by kernel_rfl) (Stable.eq _) ?_ ?_
      · intro wb1 ho_wb1
        rintro _ rfl
        rintro _ rfl
        exact And.intro rfl (Eff.reads (Yield.indexNat i rfl rfl rfl Try.runUnderlying45 Try.sizeOf66 (by omega)) rfl)
      refine FL.run (i := 9) [8] false (fun v_ _ => v_ = .pointer (some (((ad).add (i * 3)).add 1))) rfl rfl rfl (by kernel_rfl) (Stable.eq _) ?_ ?_
      · intro wb1 ho_wb1
        rintro _ rfl
        exact And.intro rfl (Eff.reads (Yield.fieldAddr rfl rfl Try.runUnderlying66 rfl Try.sizeOf32) rfl)
      refine FL.run (i := 10) [9] false (fun v_ _ => v_ = .int .u64 ((x.n.toNat : Int))) rfl rfl rfl (by kernel_rfl) (Stable.eq _) ?_ ?_
      · intro wb1 ho_wb1
        rintro _ rfl
        have hO := hO.ext ho_wb1
        exact And.intro rfl (Eff.reads (Yield.load (v := .int .u64 ((x.n.toNat : Int))) rfl rfl Try.isAgg32 (Rd.at (Rd.ext hr hO) hx 1 _ rfl)) rfl)
      refine FL.run (i := 11) [] false (fun v_ _ => v_ = .slice (some ad) (l.length) (c)) rfl rfl rfl (by kernel_rfl) (Stable.eq _) ?_ ?_
      · intro wb1 ho_wb1
        exact And.intro rfl (Eff.reads (Yield.move rfl rfl) rfl)
      refine FL.run (i := 12) [] false (fun v_ _ => v_ = .int .i64 (i)) rfl rfl rfl (by kernel_rfl) (Stable.eq _) ?_ ?_
      · intro wb1 ho_wb1
        exact And.intro rfl (Eff.reads (Yield.move rfl rfl) rfl)
      refine FL.run (i := 13) [11, 12] false (fun v_ _ => v_ = .pointer (some ((ad).add (i * 3)))) rfl rfl rfl (by kernel_rfl) (Stable.eq _) ?_ ?_
      · intro wb1 ho_wb1
        rintro _ rfl
        rintro _ rfl
        exact And.intro rfl (Eff.reads (Yield.indexNat i rfl rfl rfl Try.runUnderlying45 Try.sizeOf66 (by omega)) rfl)
      refine FL.run (i := 14) [13] false (fun v_ _ => v_ = .pointer (some (((ad).add (i * 3)).add 2))) rfl rfl rfl (by kernel_rfl) (Stable.eq _) ?_ ?_
      · intro wb1 ho_wb1
        rintro _ rfl
        exact And.intro rfl (Eff.reads (Yield.fieldAddr rfl rfl Try.runUnderlying66 rfl Try.sizeOf32) rfl)
      refine FL.run (i := 15) [14] false (fun v_ _ => v_ = .int .u64 ((x.t.toNat : Int))) rfl rfl rfl (by kernel_rfl) (Stable.eq _) ?_ ?_
      · intro wb1 ho_wb1
        rintro _ rfl
        have hO := hO.ext ho_wb1
        exact And.intro rfl (Eff.reads (Yield.load (v := .int .u64 ((x.t.toNat : Int))) rfl rfl Try.isAgg32 (Rd.at (Rd.ext hr hO) hx 2 _ rfl)) rfl)
      refine FL.run (i := 16) [] false (fun v_ _ => v_ = .int .u64 ((m.toNat : Int))) rfl rfl rfl (by kernel_rfl) (Stable.eq _) ?_ ?_
      · intro wb1 ho_wb1
        exact And.intro rfl (Eff.reads (Yield.move rfl rfl) rfl)
      refine FL.run (i := 17) [15, 16] false (fun v_ _ => v_ = .int .u64 (((x.t &&& ~~~ m).toNat : Int))) rfl rfl rfl (by kernel_rfl) (Stable.eq _) ?_ ?_
      · intro wb1 ho_wb1
        rintro _ rfl
        rintro _ rfl
        exact And.intro rfl (Eff.reads (Yield.ar (v' := .int .u64 (((x.t &&& ~~~ m).toNat : Int))) rfl rfl rfl rfl (int_eq (bv_andNot _ _))) rfl)
      refine FL.run (i := 18) [5, 10, 17] false (fun v_ _ => v_ = .agg #[.int .i64 (x.f), .int .u64 ((x.n.toNat : Int)), .int .u64 (((x.t &&& ~~~ m).toNat : Int))]) rfl rfl rfl (by kernel_rfl) (Stable.eq _) ?_ ?_
      · intro wb1 ho_wb1
        rintro _ rfl
        rintro _ rfl
        rintro _ rfl
        exact And.intro rfl (Eff.reads (Yield.build (cells := #[.int .i64 (x.f), .int .u64 ((x.n.toNat : Int)), .int .u64 (((x.t &&& ~~~ m).toNat : Int))]) rfl rfl (by kernel_rfl)) rfl)
      refine FL.run (i := 19) [18] true (fun v_ w_ => ∃ b_, v_ = .slice (some ⟨b_, 0, none⟩) (1) (1) ∧ w_.heap[b_]? = some (.cells #[.int .i64 (x.f), .int .u64 ((x.n.toNat : Int)), .int .u64 (((x.t &&& ~~~ m).toNat : Int))] 66 (0, 0)) ∧ w3.heap.size ≤ b_) rfl rfl rfl (by kernel_rfl) (Stable.blk (mk := fun b_ => .slice (some ⟨b_, 0, none⟩) (1) (1))) ?_ ?_
      · intro wb1 ho_wb1
        rintro _ rfl
        exact And.intro rfl (Eff.newSlice w3.heap.size ho_wb1.size (Eff.buildSlice (len := 1) (cs := [.int .i64 (x.f), .int .u64 ((x.n.toNat : Int)), .int .u64 (((x.t &&& ~~~ m).toNat : Int))]) [.agg #[.int .i64 (x.f), .int .u64 ((x.n.toNat : Int)), .int .u64 (((x.t &&& ~~~ m).toNat : Int))]] rfl rfl Try.runUnderlying45 Try.sizeOf66 Try.zeroValue66 rfl rfl rfl (List.forall_mem_cons.2 ⟨rfl, (fun _ h => nomatch h)⟩) rfl))
      refine FL.fin rfl [0, 19] ?_
      intro w4 ho_w4
      rintro _ rfl
      rintro _ ⟨b_49, rfl, hb_b_49, hn_b_49⟩
      intro _
      show WL _ _ _ _ _ _ _ _
      have hl_hv_v_b_49 := Nw.below hv_v hn_b_49
      replace hn_b_49 := Nat.le_trans hO.size hn_b_49
      replace hO := hO.ext ho_w4
      replace hv_v := hv_v.ext ho_w4
      replace hE_lo2 := hE_lo2.ext ho_w4
      refine WL.eff _ rfl rfl (Eff.push (E := encEn) (xs := ((l.take i).map (lessE m))) (ys := [lessE m x]) (bytes := 24) (i := Try.t66) (z := .agg #[.int .i64 (0), .int .u64 (0), .int .u64 (0)]) rfl rfl rfl rfl Try.underlying45 Try.underlying45 (by kernel_rfl) rfl rfl rfl rfl hE_lo2 hE_lo2.size (Nat.le_refl _) hv_v (blk_rd (E := encEn) (l := [lessE m x]) hb_b_49 rfl) rfl (by rw [List.length_map, List.length_take]; show (min i l.length + 1) * _ ≤ _; omega)) ?_
      rintro v_v2 w5 ⟨hE_lo2, hv_v2, ho_w5⟩
      obtain ⟨A_v2, c_v2, rfl, hc_v2, hv_v2⟩ := hv_v2.toSl
      replace hO := hO_lo2.ext hE_lo2
      refine WL.yield rfl rfl rfl (Yield.assign rfl rfl) ?_
      refine WL.fin ?_
      refine Nm.block ?_
      refine Nm.code ?_
      refine W.region ?_
      refine WL.yield rfl rfl rfl (Yield.move rfl rfl) ?_
      refine WL.yield rfl rfl rfl (Yield.ar (v' := .int .i64 (((i + 1 : Nat) : Int))) rfl rfl rfl rfl (int_eq (by rw [wrap_i64 (by omega) (by omega)]; omega))) ?_
      refine WL.yield rfl rfl rfl (Yield.assign rfl rfl) ?_
      refine WL.fin ?_
      rw [← map_step hx] at hv_v2 ⊢
      refine Nm.again ⟨i + 1, A_v2, c_v2⟩ (Env.has_cons rfl (Env.has_cons rfl (Env.has_cons rfl (Env.has_cons rfl (Env.has_cons rfl (Env.has_cons rfl Env.has_nil)))))) ⟨by omega, hE_lo2, hv_v2⟩ (by show l.length - (i + 1) < l.length - i; omega)
    · refine W.exitX ?_
      refine Ex.thenX ?_
      refine Ex.thenX ?_
      refine Ex.hit ?_
      refine Nm.code ?_
      refine W.seq ?_
      refine W.region ?_
      refine WL.yield rfl rfl rfl (Yield.move rfl rfl) ?_
      refine WL.yield rfl rfl rfl (Yield.assign rfl rfl) ?_
      refine WL.fin ?_
      refine Nm.code ?_
      refine W.ret_post (fun _ _ h => h) Try.results38 rfl ?_
      rw [List.take_of_length_le (show l.length ≤ i by omega)] at hv_v ⊢
      have e : butR l to d = l.map (lessE m) := by unfold butR; rw [if_pos hgood, hm]
      rw [e]
      exact ⟨hO, hv_v.sl⟩

theorem rless_any (w : World) (A : Option Addr) (c : Nat) (l : List En) (hr : Rd encEn w A l) (hlen : l.length ≤ 100000) (hcap : l.length ≤ c) (to : BitVec 64) :
    Fc Try.prog 37 #[.slice (A) (l.length) (c), .int .u64 ((to.toNat : Int))] w (fun v w' => Ext w w' ∧ Sl encEn (butR l to (-1)) v w') := by
  refine Fc.enter (args := [.slice (A) (l.length) (c), .int .u64 ((to.toNat : Int))]) Try.func37 rfl Try.ntmps37 rfl ?_
  intro K_
  have hO : Only (fun _ => False) w w := Only.refl _ _
  refine W.seq ?_
  refine W.region ?_
  refine WL.yield rfl rfl rfl (Yield.assign rfl rfl) ?_
  refine WL.fin ?_
  refine Nm.code ?_
  refine W.seq ?_
  refine W.region ?_
  refine WL.yield rfl rfl rfl (Yield.move rfl rfl) ?_
  refine WL.yield rfl rfl rfl (Yield.move rfl rfl) ?_
  refine WL.eff _ rfl rfl (Eff.fn rfl rfl Try.call38 (by rintro _ rfl; exact rbut_any _ _ _ _ (hr.ext hO) hlen hcap to (-1))) ?_
  have hz_w := hO.size
  rintro _ w1 ⟨ho_w1, ⟨A_7, c_7, rfl, hc_7, hr_7⟩⟩
  replace hO := hO.ext ho_w1
  refine WL.yield rfl rfl rfl (Yield.assign rfl rfl) ?_
  refine WL.fin ?_
  refine Nm.code ?_
  refine W.ret_post (fun _ _ h => h) Try.results37 rfl ?_
  exact ⟨hO, _, _, rfl, hc_7, hr_7⟩

theorem rpurge_any (w : World) (A : Option Addr) (c : Nat) (l : List En) (hr : Rd encEn w A l) (hlen : l.length ≤ 100000) (hcap : l.length ≤ c) :
    Fc Try.prog 39 #[.slice (A) (l.length) (c)] w (fun v w' => Ext w w' ∧ Sl encEn (purgeT l) v w') := by
  refine Fc.enter (args := [.slice (A) (l.length) (c)]) Try.func39 rfl Try.ntmps39 rfl ?_
  intro K_
  have hO : Only (fun _ => False) w w := Only.refl _ _
  refine W.seq ?_
  refine W.region ?_
  refine WL.yield rfl rfl rfl (Yield.assign rfl rfl) ?_
  refine WL.fin ?_
  refine Nm.code ?_
  refine W.seq ?_
  refine W.seq ?_
  refine W.region ?_
  refine WL.yield rfl rfl rfl (Yield.move rfl rfl) ?_
  refine WL.eff _ rfl rfl (Eff.fn rfl rfl Try.call34 (by rintro _ rfl; exact rgood_any _ _ _ _ (hr.ext hO) (by omega))) ?_
  have hz_w := hO.size
  rintro _ w1 ⟨ho_w1, rfl⟩
  replace hO := hO.ext ho_w1
  refine WL.yield rfl rfl rfl (Yield.not rfl rfl) ?_
  refine WL.fin ?_
  refine Nm.code ?_
  refine W.cond rfl (fun hc0 => ?_) (fun hc0 => ?_)
  · refine W.seq ?_
    refine W.region ?_
    refine WL.yield rfl rfl rfl (Yield.move rfl rfl) ?_
    refine WL.yield rfl rfl rfl (Yield.assign rfl rfl) ?_
    refine WL.fin ?_
    refine Nm.code ?_
    refine W.ret_post (fun _ _ h => h) Try.results39 rfl ?_
    have e : purgeT l = l := by unfold purgeT; rw [if_neg]; simp_all
    rw [e]
    exact ⟨hO, _, _, rfl, hcap, hr.ext hO⟩
  · refine W.skipN ?_
    refine Nm.code ?_
    refine W.seq ?_
    refine W.region ?_
    refine WL.yield rfl rfl rfl (Yield.assign rfl rfl) ?_
    refine WL.fin ?_
    refine Nm.code ?_
    refine W.seq ?_
    refine W.seq ?_
    refine W.region ?_
    refine WL.yield rfl rfl rfl (Yield.assign rfl rfl) ?_
    refine WL.fin ?_
    refine Nm.code ?_
    refine W.block ?_
    have hz_w1 := hO.size
    refine W.loop (σ := Nat × List En × Option Addr × Nat) (fun ⟨i, acc, A_v, c_v⟩ => [(0, .slice (A) (l.length) (c)), (2, .slice (none) (0) (0)), (7, .bool (!(good l))), (4, .int .i64 (i)), (3, .slice (A_v) (acc.length) (c_v))]) (fun ⟨i, acc, A_v, c_v⟩ ww => ((i ≤ l.length ∧ acc.length ≤ i ∧ acc ++ purgeL (l.drop i) = purgeL l) ∧ Ext w1 ww ∧ Nw w1.heap.size encEn 66 acc (.slice A_v acc.length c_v) ww)) (fun ⟨i, acc, A_v, c_v⟩ => (l.length - i)) ⟨0, [], none, 0⟩ (Env.has_cons rfl (Env.has_cons rfl (Env.has_cons rfl (Env.has_cons rfl (Env.has_cons rfl Env.has_nil))))) ⟨⟨Nat.zero_le _, Nat.le_refl _, rfl⟩, Ext.refl _, Nw.nil _ _ _ _⟩ ?_
    rintro ⟨i, acc, A_v, c_v⟩ w2 ⟨hp, hE_lo1, hv_v⟩
    have hO_lo1 := hO
    replace hO := hO_lo1.ext hE_lo1
    refine W.seq ?_
    refine W.seq ?_
    refine W.region ?_
    refine WL.yield rfl rfl rfl (Yield.move rfl rfl) ?_
    refine WL.yield rfl rfl rfl (Yield.move rfl rfl) ?_
    refine WL.yield rfl rfl rfl (Yield.lenSlice rfl rfl Try.runUnderlying45) ?_
    refine WL.yield rfl rfl rfl (Yield.bin rfl rfl rfl rfl) ?_
    refine WL.fin ?_
    refine Nm.code ?_
    refine W.cond_dec rfl (fun hi => ?_) (fun hi => ?_)
    · have hlt_x : i < l.length := by omega
      obtain ⟨ad, rfl⟩ := hr.addr hlt_x
      obtain ⟨x, hx⟩ := getD_some hlt_x
      refine W.skipN ?_
      refine Nm.code ?_
      refine W.seq ?_
      refine W.block ?_
      refine W.seq ?_
      have hz_w2 := hO.size
      refine W.region_flat 25 Try_follows (by kernel_rfl) (by kernel_rfl) rfl ?_
      refine FL.run (i := 0) [] false (fun v_ _ => v_ = .slice (some ad) (l.length) (c)) rfl rfl rfl (by kernel_rfl) (Stable.eq _) ?_ ?_
      · intro wb1 ho_wb1
        exact And.intro rfl (Eff.reads (Yield.move rfl rfl) rfl)
      refine FL.run (i := 1) [] false (fun v_ _ => v_ = .int .i64 (i)) rfl rfl rfl (by kernel_rfl) (Stable.eq _) ?_ ?_
      · intro wb1 ho_wb1
        exact And.intro rfl (Eff.reads (Yield.move rfl rfl) rfl)
      refine FL.run (i := 2) [0, 1] false (fun v_ _ => v_ = .pointer (some ((ad).add (i * 3)))) rfl rfl rfl (by kernel_rfl) (Stable.eq _) ?_ ?_
      · intro wb1 ho_wb1
        rintro _ rfl
        rintro _ rfl
        exact And.intro rfl (Eff.reads (Yield.indexNat i rfl rfl rfl Try.runUnderlying45 Try.sizeOf66 (by omega)) rfl)
      refine FL.run (i := 3) [2] false (fun v_ _ => v_ = .pointer (some (((ad).add (i * 3)).add 2))) rfl rfl rfl (by kernel_rfl) (Stable.eq _) ?_ ?_
      · intro wb1 ho_wb1
        rintro _ rfl
        exact And.intro rfl (Eff.reads (Yield.fieldAddr rfl rfl Try.runUnderlying66 rfl Try.sizeOf32) rfl)
      refine FL.run (i := 4) [3] false (fun v_ _ => v_ = .int .u64 ((x.t.toNat : Int))) rfl rfl rfl (by kernel_rfl) (Stable.eq _) ?_ ?_
      · intro wb1 ho_wb1
        rintro _ rfl
        have hO := hO.ext ho_wb1
        exact And.intro rfl (Eff.reads (Yield.load (v := .int .u64 ((x.t.toNat : Int))) rfl rfl Try.isAgg32 (Rd.at (Rd.ext hr hO) hx 2 _ rfl)) rfl)
      refine FL.run (i := 5) [4] false (fun v_ _ => v_ = .bool (decide (x.t ≠ 0))) rfl rfl rfl (by kernel_rfl) (Stable.eq _) ?_ ?_
      · intro wb1 ho_wb1
        rintro _ rfl
        exact And.intro rfl (Eff.reads (Yield.ar (v' := .bool (decide (x.t ≠ 0))) rfl rfl rfl rfl (bool_dec (not_congr (bv_zero _)))) rfl)
      refine FL.run (i := 6) [5] false (fun v_ _ => v_ = .bool (decide (x.t ≠ 0))) rfl rfl rfl (by kernel_rfl) (Stable.eq _) ?_ ?_
      · intro wb1 ho_wb1
        rintro _ rfl
        exact And.intro rfl (Eff.reads (Yield.move rfl rfl) rfl)
      by_cases hg1 : x.t ≠ 0
      · refine FL.skip (i := 7) [6] rfl rfl rfl (by kernel_rfl) ?_ ?_
        · intro wb1 ho_wb1
          rintro _ rfl
          rw [decide_eq_true hg1]
          exact rfl
        refine FL.skip (i := 8) [7, 6] rfl rfl rfl (by kernel_rfl) ?_ ?_
        · intro wb1 ho_wb1
          rintro _ rfl
          rintro _ rfl
          rw [decide_eq_true hg1]
          exact rfl
        refine FL.skip (i := 9) [6] rfl rfl rfl (by kernel_rfl) ?_ ?_
        · intro wb1 ho_wb1
          rintro _ rfl
          rw [decide_eq_true hg1]
          exact rfl
        refine FL.skip (i := 10) [9, 6] rfl rfl rfl (by kernel_rfl) ?_ ?_
        · intro wb1 ho_wb1
          rintro _ rfl
          rintro _ rfl
          rw [decide_eq_true hg1]
          exact rfl
        refine FL.skip (i := 11) [8, 10, 6] rfl rfl rfl (by kernel_rfl) ?_ ?_
        · intro wb1 ho_wb1
          rintro _ rfl
          rintro _ rfl
          rintro _ rfl
          rw [decide_eq_true hg1]
          exact rfl
        refine FL.run (i := 12) [6, 11] false (fun v_ _ => v_ = .bool true) rfl rfl rfl (by kernel_rfl) (Stable.eq _) ?_ ?_
        · intro wb1 ho_wb1
          rintro _ rfl
          rw [decide_eq_true hg1]
          rintro _ rfl
          exact And.intro rfl (Eff.reads (Yield.pick_t rfl rfl rfl) rfl)
        refine FL.run (i := 13) [12] false (fun v_ _ => v_ = .bool true) rfl rfl rfl (by kernel_rfl) (Stable.eq _) ?_ ?_
        · intro wb1 ho_wb1
          rintro _ rfl
          exact And.intro rfl (Eff.reads (Yield.move rfl rfl) rfl)
        refine FL.skip (i := 14) [13] rfl rfl rfl (by kernel_rfl) ?_ ?_
        · intro wb1 ho_wb1
          rintro _ rfl
          exact rfl
        refine FL.skip (i := 15) [13] rfl rfl rfl (by kernel_rfl) ?_ ?_
        · intro wb1 ho_wb1
          rintro _ rfl
          exact rfl
        refine FL.skip (i := 16) [15, 13] rfl rfl rfl (by kernel_rfl) ?_ ?_
        · intro wb1 ho_wb1
          rintro _ rfl
          rintro _ rfl
          exact rfl
        refine FL.skip (i := 17) [14, 16, 13] rfl rfl rfl (by kernel_rfl) ?_ ?_
        · intro wb1 ho_wb1
          rintro _ rfl
          rintro _ rfl
          rintro _ rfl
          exact rfl
        refine FL.skip (i := 18) [17, 13] rfl rfl rfl (by kernel_rfl) ?_ ?_
        · intro wb1 ho_wb1
          rintro _ rfl
          rintro _ rfl
          exact rfl
        refine FL.skip (i := 19) [18, 13] rfl rfl rfl (by kernel_rfl) ?_ ?_
        · intro wb1 ho_wb1
          rintro _ rfl
          rintro _ rfl
          exact rfl
        refine FL.skip (i := 20) [13] rfl rfl rfl (by kernel_rfl) ?_ ?_
        · intro wb1 ho_wb1
          rintro _ rfl
          exact rfl
        refine FL.skip (i := 21) [13] rfl rfl rfl (by kernel_rfl) ?_ ?_
        · intro wb1 ho_wb1
          rintro _ rfl
          exact rfl
        refine FL.skip (i := 22) [20, 21, 13] rfl rfl rfl (by kernel_rfl) ?_ ?_
        · intro wb1 ho_wb1
          rintro _ rfl
          rintro _ rfl
          rintro _ rfl
          exact rfl
        refine FL.skip (i := 23) [22, 13] rfl rfl rfl (by kernel_rfl) ?_ ?_
        · intro wb1 ho_wb1
          rintro _ rfl
          rintro _ rfl
          exact rfl
        refine FL.skip (i := 24) [23, 13] rfl rfl rfl (by kernel_rfl) ?_ ?_
        · intro wb1 ho_wb1
          rintro _ rfl
          rintro _ rfl
          exact rfl
        refine FL.fin rfl [13, 19, 24] ?_
        intro w3 ho_w3
        rintro _ rfl
        rintro _ rfl
        rintro _ rfl
        intro _
        show WL _ _ _ _ _ _ _ _
        replace hO := hO.ext ho_w3
        replace hv_v := hv_v.ext ho_w3
        replace hE_lo1 := hE_lo1.ext ho_w3
        refine WL.skip_g rfl rfl rfl ?_
        refine WL.yield rfl rfl rfl (Yield.pick_t rfl rfl rfl) ?_
        refine WL.fin ?_
        refine Nm.code ?_
        refine W.cond_true rfl ?_
        refine W.region ?_
        refine WL.yield rfl rfl rfl (Yield.move rfl rfl) ?_
        refine WL.yield rfl rfl rfl (Yield.move rfl rfl) ?_
        refine WL.yield rfl rfl rfl (Yield.move rfl rfl) ?_
        refine WL.yield rfl rfl rfl (Yield.indexNat i rfl rfl rfl Try.runUnderlying45 Try.sizeOf66 (by omega)) ?_
        refine WL.yield rfl rfl rfl (Yield.loadAgg (cs := [.int .i64 (x.f), .int .u64 ((x.n.toNat : Int)), .int .u64 ((x.t.toNat : Int))]) rfl rfl Try.isAgg66 Try.sizeOf66 (Rd.at (Rd.ext hr hO) hx)) ?_
        refine WL.eff _ rfl rfl (Eff.buildSlice (cs := [.int .i64 (x.f), .int .u64 ((x.n.toNat : Int)), .int .u64 ((x.t.toNat : Int))]) [.agg #[.int .i64 (x.f), .int .u64 ((x.n.toNat : Int)), .int .u64 ((x.t.toNat : Int))]] rfl rfl Try.runUnderlying45 Try.sizeOf66 Try.zeroValue66 rfl rfl rfl (List.forall_mem_cons.2 ⟨rfl, (fun _ h => nomatch h)⟩) rfl) ?_
        rintro _ w4 ⟨_, b1, rfl, hs_b1, rfl, he_w4⟩
        have hb_b1 : w4.heap[b1]? = some (.cells #[.int .i64 (x.f), .int .u64 ((x.n.toNat : Int)), .int .u64 ((x.t.toNat : Int))] 66 (0, 0)) := by rw [he_w4, hs_b1]; exact new_get _ _
        have ho_w4 : Ext w3 w4 := by rw [he_w4]; exact Ext.alloc _ _
        clear he_w4
        have hn_b1 : w.heap.size ≤ b1 := by rw [hs_b1]; exact hO.size
        have hn_b1_hE_lo1 : w1.heap.size ≤ b1 := by rw [hs_b1]; exact hE_lo1.size
        have hl_hv_v_b1 := Nw.below hv_v (Nat.le_of_eq hs_b1.symm)
        replace hO := hO.ext ho_w4
        replace hv_v := hv_v.ext ho_w4
        replace hE_lo1 := hE_lo1.ext ho_w4
        refine WL.eff _ rfl rfl (Eff.push (E := encEn) (xs := acc) (ys := [x]) (bytes := 24) (i := Try.t66) (z := .agg #[.int .i64 (0), .int .u64 (0), .int .u64 (0)]) rfl rfl rfl rfl Try.underlying45 Try.underlying45 (by kernel_rfl) rfl rfl rfl rfl hE_lo1 hE_lo1.size (Nat.le_refl _) hv_v (blk_rd (E := encEn) (l := [x]) hb_b1 rfl) rfl (by show (acc.length + 1) * _ ≤ _; omega)) ?_
        rintro v_v2 w5 ⟨hE_lo1, hv_v2, ho_w5⟩
        obtain ⟨A_v2, c_v2, rfl, hc_v2, hv_v2⟩ := hv_v2.toSl
        replace hO := hO_lo1.ext hE_lo1
        refine WL.yield rfl rfl rfl (Yield.assign rfl rfl) ?_
        refine WL.fin ?_
        refine Nm.block ?_
        refine Nm.code ?_
        refine W.region ?_
        refine WL.yield rfl rfl rfl (Yield.move rfl rfl) ?_
        refine WL.yield rfl rfl rfl (Yield.ar (v' := .int .i64 (((i + 1 : Nat) : Int))) rfl rfl rfl rfl (int_eq (by rw [wrap_i64 (by omega) (by omega)]; omega))) ?_
        refine WL.yield rfl rfl rfl (Yield.assign rfl rfl) ?_
        refine WL.fin ?_
        refine Nm.again ⟨i + 1, acc ++ [x], A_v2, c_v2⟩ (Env.has_cons rfl (Env.has_cons rfl (Env.has_cons rfl (Env.has_cons rfl (Env.has_cons rfl Env.has_nil))))) ⟨⟨by omega, by simp; omega, by rw [← hp.2.2, purge_yes hx (by first | exact .inl (by assumption) | exact .inr (.inl (by assumption)) | exact .inr (.inr ⟨y, hy, by assumption⟩))]; simp⟩, hE_lo1, hv_v2⟩ (by show l.length - (i + 1) < l.length - i; omega)
      · refine FL.run (i := 7) [6] false (fun v_ _ => v_ = .int .i64 (i)) rfl rfl rfl (by kernel_rfl) (Stable.eq _) ?_ ?_
        · intro wb1 ho_wb1
          rintro _ rfl
          rw [decide_eq_false hg1]
          exact And.intro rfl (Eff.reads (Yield.move rfl rfl) rfl)
        refine FL.run (i := 8) [7, 6] false (fun v_ _ => v_ = .int .i64 (((i + 1 : Nat) : Int))) rfl rfl rfl (by kernel_rfl) (Stable.eq _) ?_ ?_
        · intro wb1 ho_wb1
          rintro _ rfl
          rintro _ rfl
          rw [decide_eq_false hg1]
          exact And.intro rfl (Eff.reads (Yield.ar (v' := .int .i64 (((i + 1 : Nat) : Int))) rfl rfl rfl rfl (int_eq (by rw [wrap_i64 (by omega) (by omega)]; omega))) rfl)
        refine FL.run (i := 9) [6] false (fun v_ _ => v_ = .slice (some ad) (l.length) (c)) rfl rfl rfl (by kernel_rfl) (Stable.eq _) ?_ ?_
        · intro wb1 ho_wb1
          rintro _ rfl
          rw [decide_eq_false hg1]
          exact And.intro rfl (Eff.reads (Yield.move rfl rfl) rfl)
        refine FL.run (i := 10) [9, 6] false (fun v_ _ => v_ = .int .i64 (l.length)) rfl rfl rfl (by kernel_rfl) (Stable.eq _) ?_ ?_
        · intro wb1 ho_wb1
          rintro _ rfl
          rintro _ rfl
          rw [decide_eq_false hg1]
          exact And.intro rfl (Eff.reads (Yield.lenSlice rfl rfl Try.runUnderlying45) rfl)
        refine FL.run (i := 11) [8, 10, 6] false (fun v_ _ => v_ = .bool (decide (i + 1 = l.length))) rfl rfl rfl (by kernel_rfl) (Stable.eq _) ?_ ?_
        · intro wb1 ho_wb1
          rintro _ rfl
          rintro _ rfl
          rintro _ rfl
          rw [decide_eq_false hg1]
          exact And.intro rfl (Eff.reads (Yield.ar (v' := .bool (decide (i + 1 = l.length))) rfl rfl rfl rfl (bool_dec (by omega))) rfl)
        refine FL.run (i := 12) [6, 11] false (fun v_ _ => v_ = .bool (decide (i + 1 = l.length))) rfl rfl rfl (by kernel_rfl) (Stable.eq _) ?_ ?_
        · intro wb1 ho_wb1
          rintro _ rfl
          rw [decide_eq_false hg1]
          rintro _ rfl
          exact And.intro rfl (Eff.reads (Yield.pick_f rfl rfl rfl) rfl)
        refine FL.run (i := 13) [12] false (fun v_ _ => v_ = .bool (decide (i + 1 = l.length))) rfl rfl rfl (by kernel_rfl) (Stable.eq _) ?_ ?_
        · intro wb1 ho_wb1
          rintro _ rfl
          exact And.intro rfl (Eff.reads (Yield.move rfl rfl) rfl)
        by_cases hg2 : i + 1 = l.length
        · refine FL.skip (i := 14) [13] rfl rfl rfl (by kernel_rfl) ?_ ?_
          · intro wb1 ho_wb1
            rintro _ rfl
            rw [decide_eq_true hg2]
            exact rfl
          refine FL.skip (i := 15) [13] rfl rfl rfl (by kernel_rfl) ?_ ?_
          · intro wb1 ho_wb1
            rintro _ rfl
            rw [decide_eq_true hg2]
            exact rfl
          refine FL.skip (i := 16) [15, 13] rfl rfl rfl (by kernel_rfl) ?_ ?_
          · intro wb1 ho_wb1
            rintro _ rfl
            rintro _ rfl
            rw [decide_eq_true hg2]
            exact rfl
          refine FL.skip (i := 17) [14, 16, 13] rfl rfl rfl (by kernel_rfl) ?_ ?_
          · intro wb1 ho_wb1
            rintro _ rfl
            rintro _ rfl
            rintro _ rfl
            rw [decide_eq_true hg2]
            exact rfl
          refine FL.skip (i := 18) [17, 13] rfl rfl rfl (by kernel_rfl) ?_ ?_
          · intro wb1 ho_wb1
            rintro _ rfl
            rintro _ rfl
            rw [decide_eq_true hg2]
            exact rfl
          refine FL.skip (i := 19) [18, 13] rfl rfl rfl (by kernel_rfl) ?_ ?_
          · intro wb1 ho_wb1
            rintro _ rfl
            rintro _ rfl
            rw [decide_eq_true hg2]
            exact rfl
          refine FL.skip (i := 20) [13] rfl rfl rfl (by kernel_rfl) ?_ ?_
          · intro wb1 ho_wb1
            rintro _ rfl
            rw [decide_eq_true hg2]
            exact rfl
          refine FL.skip (i := 21) [13] rfl rfl rfl (by kernel_rfl) ?_ ?_
          · intro wb1 ho_wb1
            rintro _ rfl
            rw [decide_eq_true hg2]
            exact rfl
          refine FL.skip (i := 22) [20, 21, 13] rfl rfl rfl (by kernel_rfl) ?_ ?_
          · intro wb1 ho_wb1
            rintro _ rfl
            rintro _ rfl
            rintro _ rfl
            rw [decide_eq_true hg2]
            exact rfl
          refine FL.skip (i := 23) [22, 13] rfl rfl rfl (by kernel_rfl) ?_ ?_
          · intro wb1 ho_wb1
            rintro _ rfl
            rintro _ rfl
            rw [decide_eq_true hg2]
            exact rfl
          refine FL.skip (i := 24) [23, 13] rfl rfl rfl (by kernel_rfl) ?_ ?_
          · intro wb1 ho_wb1
            rintro _ rfl
            rintro _ rfl
            rw [decide_eq_true hg2]
            exact rfl
          refine FL.fin rfl [13, 19, 24] ?_
          intro w6 ho_w6
          rintro _ rfl
          rw [decide_eq_true hg2]
          rintro _ rfl
          rintro _ rfl
          intro _
          show WL _ _ _ _ _ _ _ _
          replace hO := hO.ext ho_w6
          replace hv_v := hv_v.ext ho_w6
          replace hE_lo1 := hE_lo1.ext ho_w6
          refine WL.skip_g rfl rfl rfl ?_
          refine WL.yield rfl rfl rfl (Yield.pick_t rfl rfl rfl) ?_
          refine WL.fin ?_
          refine Nm.code ?_
          refine W.cond_true rfl ?_
          refine W.region ?_
          refine WL.yield rfl rfl rfl (Yield.move rfl rfl) ?_
          refine WL.yield rfl rfl rfl (Yield.move rfl rfl) ?_
          refine WL.yield rfl rfl rfl (Yield.move rfl rfl) ?_
          refine WL.yield rfl rfl rfl (Yield.indexNat i rfl rfl rfl Try.runUnderlying45 Try.sizeOf66 (by omega)) ?_
          refine WL.yield rfl rfl rfl (Yield.loadAgg (cs := [.int .i64 (x.f), .int .u64 ((x.n.toNat : Int)), .int .u64 ((x.t.toNat : Int))]) rfl rfl Try.isAgg66 Try.sizeOf66 (Rd.at (Rd.ext hr hO) hx)) ?_
          refine WL.eff _ rfl rfl (Eff.buildSlice (cs := [.int .i64 (x.f), .int .u64 ((x.n.toNat : Int)), .int .u64 ((x.t.toNat : Int))]) [.agg #[.int .i64 (x.f), .int .u64 ((x.n.toNat : Int)), .int .u64 ((x.t.toNat : Int))]] rfl rfl Try.runUnderlying45 Try.sizeOf66 Try.zeroValue66 rfl rfl rfl (List.forall_mem_cons.2 ⟨rfl, (fun _ h => nomatch h)⟩) rfl) ?_
          rintro _ w7 ⟨_, b2, rfl, hs_b2, rfl, he_w7⟩
          have hb_b2 : w7.heap[b2]? = some (.cells #[.int .i64 (x.f), .int .u64 ((x.n.toNat : Int)), .int .u64 ((x.t.toNat : Int))] 66 (0, 0)) := by rw [he_w7, hs_b2]; exact new_get _ _
          have ho_w7 : Ext w6 w7 := by rw [he_w7]; exact Ext.alloc _ _
          clear he_w7
          have hn_b2 : w.heap.size ≤ b2 := by rw [hs_b2]; exact hO.size
          have hn_b2_hE_lo1 : w1.heap.size ≤ b2 := by rw [hs_b2]; exact hE_lo1.size
          have hl_hv_v_b2 := Nw.below hv_v (Nat.le_of_eq hs_b2.symm)
          replace hO := hO.ext ho_w7
          replace hv_v := hv_v.ext ho_w7
          replace hE_lo1 := hE_lo1.ext ho_w7
          refine WL.eff _ rfl rfl (Eff.push (E := encEn) (xs := acc) (ys := [x]) (bytes := 24) (i := Try.t66) (z := .agg #[.int .i64 (0), .int .u64 (0), .int .u64 (0)]) rfl rfl rfl rfl Try.underlying45 Try.underlying45 (by kernel_rfl) rfl rfl rfl rfl hE_lo1 hE_lo1.size (Nat.le_refl _) hv_v (blk_rd (E := encEn) (l := [x]) hb_b2 rfl) rfl (by show (acc.length + 1) * _ ≤ _; omega)) ?_
          rintro v_v2 w8 ⟨hE_lo1, hv_v2, ho_w8⟩
          obtain ⟨A_v2, c_v2, rfl, hc_v2, hv_v2⟩ := hv_v2.toSl
          replace hO := hO_lo1.ext hE_lo1
          refine WL.yield rfl rfl rfl (Yield.assign rfl rfl) ?_
          refine WL.fin ?_
          refine Nm.block ?_
          refine Nm.code ?_
          refine W.region ?_
          refine WL.yield rfl rfl rfl (Yield.move rfl rfl) ?_
          refine WL.yield rfl rfl rfl (Yield.ar (v' := .int .i64 (((i + 1 : Nat) : Int))) rfl rfl rfl rfl (int_eq (by rw [wrap_i64 (by omega) (by omega)]; omega))) ?_
          refine WL.yield rfl rfl rfl (Yield.assign rfl rfl) ?_
          refine WL.fin ?_
          refine Nm.again ⟨i + 1, acc ++ [x], A_v2, c_v2⟩ (Env.has_cons rfl (Env.has_cons rfl (Env.has_cons rfl (Env.has_cons rfl (Env.has_cons rfl Env.has_nil))))) ⟨⟨by omega, by simp; omega, by rw [← hp.2.2, purge_yes hx (by first | exact .inl (by assumption) | exact .inr (.inl (by assumption)) | exact .inr (.inr ⟨y, hy, by assumption⟩))]; simp⟩, hE_lo1, hv_v2⟩ (by show l.length - (i + 1) < l.length - i; omega)
        · have hlt_y : (i + 1) < l.length := by omega
          obtain ⟨y, hy⟩ := getD_some hlt_y
          refine FL.run (i := 14) [13] false (fun v_ _ => v_ = .slice (some ad) (l.length) (c)) rfl rfl rfl (by kernel_rfl) (Stable.eq _) ?_ ?_
          · intro wb1 ho_wb1
            rintro _ rfl
            rw [decide_eq_false hg2]
            exact And.intro rfl (Eff.reads (Yield.move rfl rfl) rfl)
          refine FL.run (i := 15) [13] false (fun v_ _ => v_ = .int .i64 (i)) rfl rfl rfl (by kernel_rfl) (Stable.eq _) ?_ ?_
          · intro wb1 ho_wb1
            rintro _ rfl
            rw [decide_eq_false hg2]
            exact And.intro rfl (Eff.reads (Yield.move rfl rfl) rfl)
          refine FL.run (i := 16) [15, 13] false (fun v_ _ => v_ = .int .i64 (((i + 1 : Nat) : Int))) rfl rfl rfl (by kernel_rfl) (Stable.eq _) ?_ ?_
          · intro wb1 ho_wb1
            rintro _ rfl
            rintro _ rfl
            rw [decide_eq_false hg2]
            exact And.intro rfl (Eff.reads (Yield.ar (v' := .int .i64 (((i + 1 : Nat) : Int))) rfl rfl rfl rfl (int_eq (by rw [wrap_i64 (by omega) (by omega)]; omega))) rfl)
          refine FL.run (i := 17) [14, 16, 13] false (fun v_ _ => v_ = .pointer (some ((ad).add ((i + 1) * 3)))) rfl rfl rfl (by kernel_rfl) (Stable.eq _) ?_ ?_
          · intro wb1 ho_wb1
            rintro _ rfl
            rintro _ rfl
            rintro _ rfl
            rw [decide_eq_false hg2]
            exact And.intro rfl (Eff.reads (Yield.indexNat (i + 1) rfl rfl rfl Try.runUnderlying45 Try.sizeOf66 (by omega)) rfl)
          refine FL.run (i := 18) [17, 13] false (fun v_ _ => v_ = .pointer (some (((ad).add ((i + 1) * 3)).add 0))) rfl rfl rfl (by kernel_rfl) (Stable.eq _) ?_ ?_
          · intro wb1 ho_wb1
            rintro _ rfl
            rintro _ rfl
            rw [decide_eq_false hg2]
            exact And.intro rfl (Eff.reads (Yield.fieldAddr rfl rfl Try.runUnderlying66 rfl Try.sizeOf3) rfl)
          refine FL.run (i := 19) [18, 13] false (fun v_ _ => v_ = .int .i64 (y.f)) rfl rfl rfl (by kernel_rfl) (Stable.eq _) ?_ ?_
          · intro wb1 ho_wb1
            rintro _ rfl
            rintro _ rfl
            rw [decide_eq_false hg2]
            have hO := hO.ext ho_wb1
            exact And.intro rfl (Eff.reads (Yield.load (v := .int .i64 (y.f)) rfl rfl Try.isAgg3 (Rd.at0 (Rd.ext hr hO) hy rfl)) rfl)
          refine FL.run (i := 20) [13] false (fun v_ _ => v_ = .slice (some ad) (l.length) (c)) rfl rfl rfl (by kernel_rfl) (Stable.eq _) ?_ ?_
          · intro wb1 ho_wb1
            rintro _ rfl
            rw [decide_eq_false hg2]
            exact And.intro rfl (Eff.reads (Yield.move rfl rfl) rfl)
          refine FL.run (i := 21) [13] false (fun v_ _ => v_ = .int .i64 (i)) rfl rfl rfl (by kernel_rfl) (Stable.eq _) ?_ ?_
          · intro wb1 ho_wb1
            rintro _ rfl
            rw [decide_eq_false hg2]
            exact And.intro rfl (Eff.reads (Yield.move rfl rfl) rfl)
          refine FL.run (i := 22) [20, 21, 13] false (fun v_ _ => v_ = .pointer (some ((ad).add (i * 3)))) rfl rfl rfl (by kernel_rfl) (Stable.eq _) ?_ ?_
          · intro wb1 ho_wb1
            rintro _ rfl
            rintro _ rfl
            rintro _ rfl
            rw [decide_eq_false hg2]
            exact And.intro rfl (Eff.reads (Yield.indexNat i rfl rfl rfl Try.runUnderlying45 Try.sizeOf66 (by omega)) rfl)
          refine FL.run (i := 23) [22, 13] false (fun v_ _ => v_ = .pointer (some (((ad).add (i * 3)).add 0))) rfl rfl rfl (by kernel_rfl) (Stable.eq _) ?_ ?_
          · intro wb1 ho_wb1
            rintro _ rfl
            rintro _ rfl
            rw [decide_eq_false hg2]
            exact And.intro rfl (Eff.reads (Yield.fieldAddr rfl rfl Try.runUnderlying66 rfl Try.sizeOf3) rfl)
          refine FL.run (i := 24) [23, 13] false (fun v_ _ => v_ = .int .i64 (x.f)) rfl rfl rfl (by kernel_rfl) (Stable.eq _) ?_ ?_
          · intro wb1 ho_wb1
            rintro _ rfl
            rintro _ rfl
            rw [decide_eq_false hg2]
            have hO := hO.ext ho_wb1
            exact And.intro rfl (Eff.reads (Yield.load (v := .int .i64 (x.f)) rfl rfl Try.isAgg3 (Rd.at0 (Rd.ext hr hO) hx rfl)) rfl)
          refine FL.fin rfl [13, 19, 24] ?_
          intro w9 ho_w9
          rintro _ rfl
          rw [decide_eq_false hg2]
          rintro _ rfl
          rintro _ rfl
          intro _
          show WL _ _ _ _ _ _ _ _
          replace hO := hO.ext ho_w9
          replace hv_v := hv_v.ext ho_w9
          replace hE_lo1 := hE_lo1.ext ho_w9
          refine WL.yield_g rfl rfl rfl (Yield.bin rfl rfl rfl rfl) ?_
          refine WL.yield rfl rfl rfl (Yield.pick_f rfl rfl rfl) ?_
          refine WL.fin ?_
          refine Nm.code ?_
          refine W.cond_dec rfl (fun hc2 => ?_) (fun hc2 => ?_)
          · refine W.region ?_
            refine WL.yield rfl rfl rfl (Yield.move rfl rfl) ?_
            refine WL.yield rfl rfl rfl (Yield.move rfl rfl) ?_
            refine WL.yield rfl rfl rfl (Yield.move rfl rfl) ?_
            refine WL.yield rfl rfl rfl (Yield.indexNat i rfl rfl rfl Try.runUnderlying45 Try.sizeOf66 (by omega)) ?_
            refine WL.yield rfl rfl rfl (Yield.loadAgg (cs := [.int .i64 (x.f), .int .u64 ((x.n.toNat : Int)), .int .u64 ((x.t.toNat : Int))]) rfl rfl Try.isAgg66 Try.sizeOf66 (Rd.at (Rd.ext hr hO) hx)) ?_
            refine WL.eff _ rfl rfl (Eff.buildSlice (cs := [.int .i64 (x.f), .int .u64 ((x.n.toNat : Int)), .int .u64 ((x.t.toNat : Int))]) [.agg #[.int .i64 (x.f), .int .u64 ((x.n.toNat : Int)), .int .u64 ((x.t.toNat : Int))]] rfl rfl Try.runUnderlying45 Try.sizeOf66 Try.zeroValue66 rfl rfl rfl (List.forall_mem_cons.2 ⟨rfl, (fun _ h => nomatch h)⟩) rfl) ?_
            rintro _ w10 ⟨_, b3, rfl, hs_b3, rfl, he_w10⟩
            have hb_b3 : w10.heap[b3]? = some (.cells #[.int .i64 (x.f), .int .u64 ((x.n.toNat : Int)), .int .u64 ((x.t.toNat : Int))] 66 (0, 0)) := by rw [he_w10, hs_b3]; exact new_get _ _
            have ho_w10 : Ext w9 w10 := by rw [he_w10]; exact Ext.alloc _ _
            clear he_w10
            have hn_b3 : w.heap.size ≤ b3 := by rw [hs_b3]; exact hO.size
            have hn_b3_hE_lo1 : w1.heap.size ≤ b3 := by rw [hs_b3]; exact hE_lo1.size
            have hl_hv_v_b3 := Nw.below hv_v (Nat.le_of_eq hs_b3.symm)
            replace hO := hO.ext ho_w10
            replace hv_v := hv_v.ext ho_w10
            replace hE_lo1 := hE_lo1.ext ho_w10
            refine WL.eff _ rfl rfl (Eff.push (E := encEn) (xs := acc) (ys := [x]) (bytes := 24) (i := Try.t66) (z := .agg #[.int .i64 (0), .int .u64 (0), .int .u64 (0)]) rfl rfl rfl rfl Try.underlying45 Try.underlying45 (by kernel_rfl) rfl rfl rfl rfl hE_lo1 hE_lo1.size (Nat.le_refl _) hv_v (blk_rd (E := encEn) (l := [x]) hb_b3 rfl) rfl (by show (acc.length + 1) * _ ≤ _; omega)) ?_
            rintro v_v2 w11 ⟨hE_lo1, hv_v2, ho_w11⟩
            obtain ⟨A_v2, c_v2, rfl, hc_v2, hv_v2⟩ := hv_v2.toSl
            replace hO := hO_lo1.ext hE_lo1
            refine WL.yield rfl rfl rfl (Yield.assign rfl rfl) ?_
            refine WL.fin ?_
            refine Nm.block ?_
            refine Nm.code ?_
            refine W.region ?_
            refine WL.yield rfl rfl rfl (Yield.move rfl rfl) ?_
            refine WL.yield rfl rfl rfl (Yield.ar (v' := .int .i64 (((i + 1 : Nat) : Int))) rfl rfl rfl rfl (int_eq (by rw [wrap_i64 (by omega) (by omega)]; omega))) ?_
            refine WL.yield rfl rfl rfl (Yield.assign rfl rfl) ?_
            refine WL.fin ?_
            refine Nm.again ⟨i + 1, acc ++ [x], A_v2, c_v2⟩ (Env.has_cons rfl (Env.has_cons rfl (Env.has_cons rfl (Env.has_cons rfl (Env.has_cons rfl Env.has_nil))))) ⟨⟨by omega, by simp; omega, by rw [← hp.2.2, purge_yes hx (by first | exact .inl (by assumption) | exact .inr (.inl (by assumption)) | exact .inr (.inr ⟨y, hy, by assumption⟩))]; simp⟩, hE_lo1, hv_v2⟩ (by show l.length - (i + 1) < l.length - i; omega)
          · refine W.skipN ?_
            refine Nm.block ?_
            refine Nm.code ?_
            refine W.region ?_
            refine WL.yield rfl rfl rfl (Yield.move rfl rfl) ?_
            refine WL.yield rfl rfl rfl (Yield.ar (v' := .int .i64 (((i + 1 : Nat) : Int))) rfl rfl rfl rfl (int_eq (by rw [wrap_i64 (by omega) (by omega)]; omega))) ?_
            refine WL.yield rfl rfl rfl (Yield.assign rfl rfl) ?_
            refine WL.fin ?_
            refine Nm.again ⟨i + 1, acc, A_v, c_v⟩ (Env.has_cons rfl (Env.has_cons rfl (Env.has_cons rfl (Env.has_cons rfl (Env.has_cons rfl Env.has_nil))))) ⟨⟨by omega, by omega, by rw [← hp.2.2, purge_no hx hg1 hy (by first | assumption | omega)]⟩, hE_lo1, hv_v⟩ (by show l.length - (i + 1) < l.length - i; omega)
    · refine W.exitX ?_
      refine Ex.thenX ?_
      refine Ex.thenX ?_
      refine Ex.hit ?_
      refine Nm.code ?_
      refine W.seq ?_
      refine W.region ?_
      refine WL.yield rfl rfl rfl (Yield.move rfl rfl) ?_
      refine WL.yield rfl rfl rfl (Yield.assign rfl rfl) ?_
      refine WL.fin ?_
      refine Nm.code ?_
      refine W.ret_post (fun _ _ h => h) Try.results39 rfl ?_
      rw [purge_end (by omega), List.append_nil] at hp
      have e : purgeT l = acc := by unfold purgeT; rw [if_pos (by simpa using hc0), ← hp.2.2]
      rw [e]
      exact ⟨hO, hv_v.sl⟩

theorem find_any (w : World) (A : Option Addr) (c : Nat) (l : List En) (hr : Rd encEn w A l) (hlen : l.length ≤ 100000) (x : En) :
    Fc Try.prog 86 #[.slice (A) (l.length) (c), .agg #[.int .i64 (x.f), .int .u64 ((x.n.toNat : Int)), .int .u64 ((x.t.toNat : Int))]] w (fun v w' => Ext w w' ∧ v = .tuple #[.int .i64 (atS l x l.length), .bool (moreS l x l.length)]) := by
  refine Fc.enter (args := [.slice (A) (l.length) (c), .agg #[.int .i64 (x.f), .int .u64 ((x.n.toNat : Int)), .int .u64 ((x.t.toNat : Int))]]) Try.func86 rfl Try.ntmps86 rfl ?_
  intro K_
  have hO : Only (fun _ => False) w w := Only.refl _ _
  refine W.seq ?_
  refine W.region ?_
  refine WL.eff _ rfl rfl (Eff.box rfl rfl) ?_
  rintro _ w1 ⟨_, b1, rfl, hs_b1, rfl, he_w1⟩
  have hb_b1 : w1.heap[b1]? = some (.cells #[.int .i64 (x.f), .int .u64 ((x.n.toNat : Int)), .int .u64 ((x.t.toNat : Int))] 66 (0, 0)) := by rw [he_w1, hs_b1]; exact new_get _ _
  have ho_w1 : Ext w w1 := by rw [he_w1]; exact Ext.alloc _ _
  clear he_w1
  have hn_b1 : w.heap.size ≤ b1 := by rw [hs_b1]; exact hO.size
  replace hO := hO.ext ho_w1
  refine WL.yield rfl rfl rfl (Yield.assign rfl rfl) ?_
  refine WL.yield rfl rfl rfl (Yield.assign rfl rfl) ?_
  refine WL.fin ?_
  refine Nm.code ?_
  refine W.seq ?_
  refine W.region ?_
  refine WL.yield rfl rfl rfl (Yield.assign rfl rfl) ?_
  refine WL.yield rfl rfl rfl (Yield.assign rfl rfl) ?_
  refine WL.fin ?_
  refine Nm.code ?_
  refine W.seq ?_
  refine W.seq ?_
  refine W.region ?_
  refine WL.yield rfl rfl rfl (Yield.assign rfl rfl) ?_
  refine WL.fin ?_
  refine Nm.code ?_
  refine W.block ?_
  have hz_w1 := hO.size
  have hlt_b1_w1 : b1 < w1.heap.size := blk_lt hb_b1
  refine W.loop (σ := Nat) (fun i => [(0, .slice (A) (l.length) (c)), (3, .pointer (some ⟨b1, 0, none⟩)), (4, .int .i64 (0)), (5, .bool false), (8, .int .i64 (i)), (6, .int .i64 (atS l x i)), (7, .bool (moreS l x i))]) (fun i ww => ((i ≤ l.length) ∧ Ext w1 ww)) (fun i => (l.length - i)) 0 (Env.has_cons rfl (Env.has_cons rfl (Env.has_cons rfl (Env.has_cons rfl (Env.has_cons rfl (Env.has_cons rfl (Env.has_cons rfl Env.has_nil))))))) ⟨Nat.zero_le _, Ext.refl _⟩ ?_
  rintro i w2 ⟨hp, hE_lo1⟩
  have hb_b1_lo1 := hb_b1
  replace hb_b1 := Ext.get hE_lo1 hb_b1_lo1
  have hO_lo1 := hO
  replace hO := hO_lo1.ext hE_lo1
  refine W.seq ?_
  refine W.seq ?_
  refine W.region ?_
  refine WL.yield rfl rfl rfl (Yield.move rfl rfl) ?_
  refine WL.yield rfl rfl rfl (Yield.move rfl rfl) ?_
  refine WL.yield rfl rfl rfl (Yield.lenSlice rfl rfl Try.runUnderlying45) ?_
  refine WL.yield rfl rfl rfl (Yield.bin rfl rfl rfl rfl) ?_
  refine WL.fin ?_
  refine Nm.code ?_
  refine W.cond_dec rfl (fun hi => ?_) (fun hi => ?_)
  · have hlt_y : i < l.length := by omega
    obtain ⟨ad, rfl⟩ := hr.addr hlt_y
    obtain ⟨y, hy⟩ := getD_some hlt_y
    refine W.skipN ?_
    refine Nm.code ?_
    refine W.seq ?_
    refine W.block ?_
    refine W.seq ?_
    refine W.seq ?_
    have hlt_b1_w2 : b1 < w2.heap.size := blk_lt hb_b1
    have hz_w2 := hO.size
    refine W.region_flat 16 Try_follows (by kernel_rfl) (by kernel_rfl) rfl ?_
    refine FL.run (i := 0) [] false (fun v_ _ => v_ = .slice (some ad) (l.length) (c)) rfl rfl rfl (by kernel_rfl) (Stable.eq _) ?_ ?_
    · intro wb1 ho_wb1
      exact And.intro rfl (Eff.reads (Yield.move rfl rfl) rfl)
    refine FL.run (i := 1) [] false (fun v_ _ => v_ = .int .i64 (i)) rfl rfl rfl (by kernel_rfl) (Stable.eq _) ?_ ?_
    · intro wb1 ho_wb1
      exact And.intro rfl (Eff.reads (Yield.move rfl rfl) rfl)
    refine FL.run (i := 2) [0, 1] false (fun v_ _ => v_ = .pointer (some ((ad).add (i * 3)))) rfl rfl rfl (by kernel_rfl) (Stable.eq _) ?_ ?_
    · intro wb1 ho_wb1
      rintro _ rfl
      rintro _ rfl
      exact And.intro rfl (Eff.reads (Yield.indexNat i rfl rfl rfl Try.runUnderlying45 Try.sizeOf66 (by omega)) rfl)
    refine FL.run (i := 3) [2] false (fun v_ _ => v_ = .pointer (some (((ad).add (i * 3)).add 0))) rfl rfl rfl (by kernel_rfl) (Stable.eq _) ?_ ?_
    · intro wb1 ho_wb1
      rintro _ rfl
      exact And.intro rfl (Eff.reads (Yield.fieldAddr rfl rfl Try.runUnderlying66 rfl Try.sizeOf3) rfl)
    refine FL.run (i := 4) [3] false (fun v_ _ => v_ = .int .i64 (y.f)) rfl rfl rfl (by kernel_rfl) (Stable.eq _) ?_ ?_
    · intro wb1 ho_wb1
      rintro _ rfl
      have hO := hO.ext ho_wb1
      exact And.intro rfl (Eff.reads (Yield.load (v := .int .i64 (y.f)) rfl rfl Try.isAgg3 (Rd.at0 (Rd.ext hr hO) hy rfl)) rfl)
    refine FL.run (i := 5) [] false (fun v_ _ => v_ = .pointer (some ⟨b1, 0, none⟩)) rfl rfl rfl (by kernel_rfl) (Stable.eq _) ?_ ?_
    · intro wb1 ho_wb1
      exact And.intro rfl (Eff.reads (Yield.fieldAt (k := 0) rfl rfl Try.runUnderlying66 rfl Try.sizeOf3 rfl) rfl)
    refine FL.run (i := 6) [5] false (fun v_ _ => v_ = .int .i64 (x.f)) rfl rfl rfl (by kernel_rfl) (Stable.eq _) ?_ ?_
    · intro wb1 ho_wb1
      rintro _ rfl
      have hb_b1 := ho_wb1.get hb_b1
      exact And.intro rfl (Eff.reads (Yield.load (v := .int .i64 (x.f)) rfl rfl Try.isAgg3 (cell_get hb_b1 rfl)) rfl)
    refine FL.run (i := 7) [4, 6] false (fun v_ _ => v_ = .bool (decide (y.f = x.f))) rfl rfl rfl (by kernel_rfl) (Stable.eq _) ?_ ?_
    · intro wb1 ho_wb1
      rintro _ rfl
      rintro _ rfl
      exact And.intro rfl (Eff.reads (Yield.ar (v' := .bool (decide (y.f = x.f))) rfl rfl rfl rfl (bool_dec (Iff.rfl))) rfl)
    refine FL.run (i := 8) [7] false (fun v_ _ => v_ = .bool (decide (y.f = x.f))) rfl rfl rfl (by kernel_rfl) (Stable.eq _) ?_ ?_
    · intro wb1 ho_wb1
      rintro _ rfl
      exact And.intro rfl (Eff.reads (Yield.move rfl rfl) rfl)
    by_cases hg5 : y.f = x.f
    · refine FL.run (i := 9) [8] false (fun v_ _ => v_ = .slice (some ad) (l.length) (c)) rfl rfl rfl (by kernel_rfl) (Stable.eq _) ?_ ?_
      · intro wb1 ho_wb1
        rintro _ rfl
        rw [decide_eq_true hg5]
        exact And.intro rfl (Eff.reads (Yield.move rfl rfl) rfl)
      refine FL.run (i := 10) [8] false (fun v_ _ => v_ = .int .i64 (i)) rfl rfl rfl (by kernel_rfl) (Stable.eq _) ?_ ?_
      · intro wb1 ho_wb1
        rintro _ rfl
        rw [decide_eq_true hg5]
        exact And.intro rfl (Eff.reads (Yield.move rfl rfl) rfl)
      refine FL.run (i := 11) [9, 10, 8] false (fun v_ _ => v_ = .pointer (some ((ad).add (i * 3)))) rfl rfl rfl (by kernel_rfl) (Stable.eq _) ?_ ?_
      · intro wb1 ho_wb1
        rintro _ rfl
        rintro _ rfl
        rintro _ rfl
        rw [decide_eq_true hg5]
        exact And.intro rfl (Eff.reads (Yield.indexNat i rfl rfl rfl Try.runUnderlying45 Try.sizeOf66 (by omega)) rfl)
      refine FL.run (i := 12) [11, 8] false (fun v_ _ => v_ = .pointer (some (((ad).add (i * 3)).add 1))) rfl rfl rfl (by kernel_rfl) (Stable.eq _) ?_ ?_
      · intro wb1 ho_wb1
        rintro _ rfl
        rintro _ rfl
        rw [decide_eq_true hg5]
        exact And.intro rfl (Eff.reads (Yield.fieldAddr rfl rfl Try.runUnderlying66 rfl Try.sizeOf32) rfl)
      refine FL.run (i := 13) [12, 8] false (fun v_ _ => v_ = .int .u64 ((y.n.toNat : Int))) rfl rfl rfl (by kernel_rfl) (Stable.eq _) ?_ ?_
      · intro wb1 ho_wb1
        rintro _ rfl
        rintro _ rfl
        rw [decide_eq_true hg5]
        have hO := hO.ext ho_wb1
        exact And.intro rfl (Eff.reads (Yield.load (v := .int .u64 ((y.n.toNat : Int))) rfl rfl Try.isAgg32 (Rd.at (Rd.ext hr hO) hy 1 _ rfl)) rfl)
      refine FL.run (i := 14) [8] false (fun v_ _ => v_ = .pointer (some ⟨b1, 1, none⟩)) rfl rfl rfl (by kernel_rfl) (Stable.eq _) ?_ ?_
      · intro wb1 ho_wb1
        rintro _ rfl
        rw [decide_eq_true hg5]
        exact And.intro rfl (Eff.reads (Yield.fieldAt (k := 1) rfl rfl Try.runUnderlying66 rfl Try.sizeOf32 rfl) rfl)
      refine FL.run (i := 15) [14, 8] false (fun v_ _ => v_ = .int .u64 ((x.n.toNat : Int))) rfl rfl rfl (by kernel_rfl) (Stable.eq _) ?_ ?_
      · intro wb1 ho_wb1
        rintro _ rfl
        rintro _ rfl
        rw [decide_eq_true hg5]
        have hb_b1 := ho_wb1.get hb_b1
        exact And.intro rfl (Eff.reads (Yield.load (v := .int .u64 ((x.n.toNat : Int))) rfl rfl Try.isAgg32 (cell_get hb_b1 rfl)) rfl)
      refine FL.fin rfl [8, 13, 15] ?_
      intro w3 ho_w3
      rintro _ rfl
      rw [decide_eq_true hg5]
      rintro _ rfl
      rintro _ rfl
      intro _
      show WL _ _ _ _ _ _ _ _
      replace hb_b1 := ho_w3.get hb_b1
      replace hO := hO.ext ho_w3
      replace hE_lo1 := hE_lo1.ext ho_w3
      refine WL.yield_g rfl rfl rfl (Yield.ar (v' := .bool (decide (y.n.toNat = x.n.toNat))) rfl rfl rfl rfl (bool_dec (by omega))) ?_
      refine WL.yield rfl rfl rfl (Yield.pick_t rfl rfl rfl) ?_
      refine WL.fin ?_
      refine Nm.code ?_
      refine W.cond_dec rfl (fun hc1 => ?_) (fun hc1 => ?_)
      · refine W.region ?_
        refine WL.yield rfl rfl rfl (Yield.move rfl rfl) ?_
        refine WL.yield rfl rfl rfl (Yield.assign rfl rfl) ?_
        refine WL.fin ?_
        refine Nm.code ?_
        have hlt_b1_w3 : b1 < w3.heap.size := blk_lt hb_b1
        have hz_w3 := hO.size
        refine W.region_flat 18 Try_follows (by kernel_rfl) (by kernel_rfl) rfl ?_
        refine FL.run (i := 0) [] false (fun v_ _ => v_ = .bool (moreS l x i)) rfl rfl rfl (by kernel_rfl) (Stable.eq _) ?_ ?_
        · intro wb2 ho_wb2
          exact And.intro rfl (Eff.reads (Yield.move rfl rfl) rfl)
        refine FL.run (i := 1) [0] false (fun v_ _ => v_ = .bool (moreS l x i)) rfl rfl rfl (by kernel_rfl) (Stable.eq _) ?_ ?_
        · intro wb2 ho_wb2
          rintro _ rfl
          exact And.intro rfl (Eff.reads (Yield.move rfl rfl) rfl)
        rcases Bool.eq_false_or_eq_true (moreS l x i) with hg7 | hg7
        · refine FL.skip (i := 2) [1] rfl rfl rfl (by kernel_rfl) ?_ ?_
          · intro wb2 ho_wb2
            rintro _ rfl
            rw [hg7]
            exact rfl
          refine FL.skip (i := 3) [1] rfl rfl rfl (by kernel_rfl) ?_ ?_
          · intro wb2 ho_wb2
            rintro _ rfl
            rw [hg7]
            exact rfl
          refine FL.skip (i := 4) [2, 3, 1] rfl rfl rfl (by kernel_rfl) ?_ ?_
          · intro wb2 ho_wb2
            rintro _ rfl
            rintro _ rfl
            rintro _ rfl
            rw [hg7]
            exact rfl
          refine FL.skip (i := 5) [4, 1] rfl rfl rfl (by kernel_rfl) ?_ ?_
          · intro wb2 ho_wb2
            rintro _ rfl
            rintro _ rfl
            rw [hg7]
            exact rfl
          refine FL.skip (i := 6) [5, 1] rfl rfl rfl (by kernel_rfl) ?_ ?_
          · intro wb2 ho_wb2
            rintro _ rfl
            rintro _ rfl
            rw [hg7]
            exact rfl
          refine FL.skip (i := 7) [1] rfl rfl rfl (by kernel_rfl) ?_ ?_
          · intro wb2 ho_wb2
            rintro _ rfl
            rw [hg7]
            exact rfl
          refine FL.skip (i := 8) [7, 1] rfl rfl rfl (by kernel_rfl) ?_ ?_
          · intro wb2 ho_wb2
            rintro _ rfl
            rintro _ rfl
            rw [hg7]
            exact rfl
          refine FL.skip (i := 9) [6, 8, 1] rfl rfl rfl (by kernel_rfl) ?_ ?_
          · intro wb2 ho_wb2
            rintro _ rfl
            rintro _ rfl
            rintro _ rfl
            rw [hg7]
            exact rfl
          refine FL.skip (i := 10) [9, 1] rfl rfl rfl (by kernel_rfl) ?_ ?_
          · intro wb2 ho_wb2
            rintro _ rfl
            rintro _ rfl
            rw [hg7]
            exact rfl
          refine FL.skip (i := 11) [10] rfl rfl rfl (by kernel_rfl) ?_ ?_
          · intro wb2 ho_wb2
            rintro _ rfl
            exact rfl
          refine FL.skip (i := 12) [10] rfl rfl rfl (by kernel_rfl) ?_ ?_
          · intro wb2 ho_wb2
            rintro _ rfl
            exact rfl
          refine FL.skip (i := 13) [11, 12, 10] rfl rfl rfl (by kernel_rfl) ?_ ?_
          · intro wb2 ho_wb2
            rintro _ rfl
            rintro _ rfl
            rintro _ rfl
            exact rfl
          refine FL.skip (i := 14) [13, 10] rfl rfl rfl (by kernel_rfl) ?_ ?_
          · intro wb2 ho_wb2
            rintro _ rfl
            rintro _ rfl
            exact rfl
          refine FL.skip (i := 15) [14, 10] rfl rfl rfl (by kernel_rfl) ?_ ?_
          · intro wb2 ho_wb2
            rintro _ rfl
            rintro _ rfl
            exact rfl
          refine FL.skip (i := 16) [10] rfl rfl rfl (by kernel_rfl) ?_ ?_
          · intro wb2 ho_wb2
            rintro _ rfl
            exact rfl
          refine FL.skip (i := 17) [16, 10] rfl rfl rfl (by kernel_rfl) ?_ ?_
          · intro wb2 ho_wb2
            rintro _ rfl
            rintro _ rfl
            exact rfl
          refine FL.fin rfl [1, 10, 15, 17] ?_
          intro w4 ho_w4
          rintro _ rfl
          rw [hg7]
          rintro _ rfl
          rintro _ rfl
          rintro _ rfl
          intro _
          show WL _ _ _ _ _ _ _ _
          replace hb_b1 := ho_w4.get hb_b1
          replace hO := hO.ext ho_w4
          replace hE_lo1 := hE_lo1.ext ho_w4
          refine WL.skip_g rfl rfl rfl ?_
          refine WL.skip_g rfl rfl rfl ?_
          refine WL.yield rfl rfl rfl (Yield.pick_t rfl rfl rfl) ?_
          refine WL.yield rfl rfl rfl (Yield.assign rfl rfl) ?_
          refine WL.fin ?_
          refine Nm.block ?_
          refine Nm.code ?_
          refine W.region ?_
          refine WL.yield rfl rfl rfl (Yield.move rfl rfl) ?_
          refine WL.yield rfl rfl rfl (Yield.ar (v' := .int .i64 (((i + 1 : Nat) : Int))) rfl rfl rfl rfl (int_eq (by rw [wrap_i64 (by omega) (by omega)]; omega))) ?_
          refine WL.yield rfl rfl rfl (Yield.assign rfl rfl) ?_
          refine WL.fin ?_
          have ha := atS_step (x := x) hy
          have hb := moreS_step (x := x) hy
          refine Nm.again (i + 1) (Env.has_cons rfl (Env.has_cons rfl (Env.has_cons rfl (Env.has_cons rfl (Env.has_cons rfl (Env.has_cons (by rw [ha]; first | (rw [if_pos (keyE_ord.2 (ord_zero.2 ⟨by first | assumption | omega, BitVec.eq_of_toNat_eq (by first | assumption | omega)⟩))]; rfl) | (rw [if_neg (fun hk => by obtain ⟨k1, k2⟩ := ord_zero.1 (keyE_ord.1 hk); have k3 := congrArg BitVec.toNat k2; omega)]; rfl)) (Env.has_cons (by rw [hb, hg7]; first | rfl | (rw [decide_eq_true hg5]; rfl) | (rw [decide_eq_false hg5]; rfl)) Env.has_nil))))))) ⟨by omega, hE_lo1⟩ (by omega)
        · refine FL.run (i := 2) [1] false (fun v_ _ => v_ = .slice (some ad) (l.length) (c)) rfl rfl rfl (by kernel_rfl) (Stable.eq _) ?_ ?_
          · intro wb2 ho_wb2
            rintro _ rfl
            rw [hg7]
            exact And.intro rfl (Eff.reads (Yield.move rfl rfl) rfl)
          refine FL.run (i := 3) [1] false (fun v_ _ => v_ = .int .i64 (i)) rfl rfl rfl (by kernel_rfl) (Stable.eq _) ?_ ?_
          · intro wb2 ho_wb2
            rintro _ rfl
            rw [hg7]
            exact And.intro rfl (Eff.reads (Yield.move rfl rfl) rfl)
          refine FL.run (i := 4) [2, 3, 1] false (fun v_ _ => v_ = .pointer (some ((ad).add (i * 3)))) rfl rfl rfl (by kernel_rfl) (Stable.eq _) ?_ ?_
          · intro wb2 ho_wb2
            rintro _ rfl
            rintro _ rfl
            rintro _ rfl
            rw [hg7]
            exact And.intro rfl (Eff.reads (Yield.indexNat i rfl rfl rfl Try.runUnderlying45 Try.sizeOf66 (by omega)) rfl)
          refine FL.run (i := 5) [4, 1] false (fun v_ _ => v_ = .pointer (some (((ad).add (i * 3)).add 0))) rfl rfl rfl (by kernel_rfl) (Stable.eq _) ?_ ?_
          · intro wb2 ho_wb2
            rintro _ rfl
            rintro _ rfl
            rw [hg7]
            exact And.intro rfl (Eff.reads (Yield.fieldAddr rfl rfl Try.runUnderlying66 rfl Try.sizeOf3) rfl)
          refine FL.run (i := 6) [5, 1] false (fun v_ _ => v_ = .int .i64 (y.f)) rfl rfl rfl (by kernel_rfl) (Stable.eq _) ?_ ?_
          · intro wb2 ho_wb2
            rintro _ rfl
            rintro _ rfl
            rw [hg7]
            have hO := hO.ext ho_wb2
            exact And.intro rfl (Eff.reads (Yield.load (v := .int .i64 (y.f)) rfl rfl Try.isAgg3 (Rd.at0 (Rd.ext hr hO) hy rfl)) rfl)
          refine FL.run (i := 7) [1] false (fun v_ _ => v_ = .pointer (some ⟨b1, 0, none⟩)) rfl rfl rfl (by kernel_rfl) (Stable.eq _) ?_ ?_
          · intro wb2 ho_wb2
            rintro _ rfl
            rw [hg7]
            exact And.intro rfl (Eff.reads (Yield.fieldAt (k := 0) rfl rfl Try.runUnderlying66 rfl Try.sizeOf3 rfl) rfl)
          refine FL.run (i := 8) [7, 1] false (fun v_ _ => v_ = .int .i64 (x.f)) rfl rfl rfl (by kernel_rfl) (Stable.eq _) ?_ ?_
          · intro wb2 ho_wb2
            rintro _ rfl
            rintro _ rfl
            rw [hg7]
            have hb_b1 := ho_wb2.get hb_b1
            exact And.intro rfl (Eff.reads (Yield.load (v := .int .i64 (x.f)) rfl rfl Try.isAgg3 (cell_get hb_b1 rfl)) rfl)
          refine FL.run (i := 9) [6, 8, 1] false (fun v_ _ => v_ = .bool (decide (y.f = x.f))) rfl rfl rfl (by kernel_rfl) (Stable.eq _) ?_ ?_
          · intro wb2 ho_wb2
            rintro _ rfl
            rintro _ rfl
            rintro _ rfl
            rw [hg7]
            exact And.intro rfl (Eff.reads (Yield.ar (v' := .bool (decide (y.f = x.f))) rfl rfl rfl rfl (bool_dec (Iff.rfl))) rfl)
          refine FL.run (i := 10) [9, 1] false (fun v_ _ => v_ = .bool true) rfl rfl rfl (by kernel_rfl) (Stable.eq _) ?_ ?_
          · intro wb2 ho_wb2
            rintro _ rfl
            rw [decide_eq_true hg5]
            rintro _ rfl
            rw [hg7]
            exact And.intro rfl (Eff.reads (Yield.move rfl rfl) rfl)
          refine FL.run (i := 11) [10] false (fun v_ _ => v_ = .slice (some ad) (l.length) (c)) rfl rfl rfl (by kernel_rfl) (Stable.eq _) ?_ ?_
          · intro wb2 ho_wb2
            rintro _ rfl
            exact And.intro rfl (Eff.reads (Yield.move rfl rfl) rfl)
          refine FL.run (i := 12) [10] false (fun v_ _ => v_ = .int .i64 (i)) rfl rfl rfl (by kernel_rfl) (Stable.eq _) ?_ ?_
          · intro wb2 ho_wb2
            rintro _ rfl
            exact And.intro rfl (Eff.reads (Yield.move rfl rfl) rfl)
          refine FL.run (i := 13) [11, 12, 10] false (fun v_ _ => v_ = .pointer (some ((ad).add (i * 3)))) rfl rfl rfl (by kernel_rfl) (Stable.eq _) ?_ ?_
          · intro wb2 ho_wb2
            rintro _ rfl
            rintro _ rfl
            rintro _ rfl
            exact And.intro rfl (Eff.reads (Yield.indexNat i rfl rfl rfl Try.runUnderlying45 Try.sizeOf66 (by omega)) rfl)
          refine FL.run (i := 14) [13, 10] false (fun v_ _ => v_ = .pointer (some (((ad).add (i * 3)).add 1))) rfl rfl rfl (by kernel_rfl) (Stable.eq _) ?_ ?_
          · intro wb2 ho_wb2
            rintro _ rfl
            rintro _ rfl
            exact And.intro rfl (Eff.reads (Yield.fieldAddr rfl rfl Try.runUnderlying66 rfl Try.sizeOf32) rfl)
          refine FL.run (i := 15) [14, 10] false (fun v_ _ => v_ = .int .u64 ((y.n.toNat : Int))) rfl rfl rfl (by kernel_rfl) (Stable.eq _) ?_ ?_
          · intro wb2 ho_wb2
            rintro _ rfl
            rintro _ rfl
            have hO := hO.ext ho_wb2
            exact And.intro rfl (Eff.reads (Yield.load (v := .int .u64 ((y.n.toNat : Int))) rfl rfl Try.isAgg32 (Rd.at (Rd.ext hr hO) hy 1 _ rfl)) rfl)
          refine FL.run (i := 16) [10] false (fun v_ _ => v_ = .pointer (some ⟨b1, 1, none⟩)) rfl rfl rfl (by kernel_rfl) (Stable.eq _) ?_ ?_
          · intro wb2 ho_wb2
            rintro _ rfl
            exact And.intro rfl (Eff.reads (Yield.fieldAt (k := 1) rfl rfl Try.runUnderlying66 rfl Try.sizeOf32 rfl) rfl)
          refine FL.run (i := 17) [16, 10] false (fun v_ _ => v_ = .int .u64 ((x.n.toNat : Int))) rfl rfl rfl (by kernel_rfl) (Stable.eq _) ?_ ?_
          · intro wb2 ho_wb2
            rintro _ rfl
            rintro _ rfl
            have hb_b1 := ho_wb2.get hb_b1
            exact And.intro rfl (Eff.reads (Yield.load (v := .int .u64 ((x.n.toNat : Int))) rfl rfl Try.isAgg32 (cell_get hb_b1 rfl)) rfl)
          refine FL.fin rfl [1, 10, 15, 17] ?_
          intro w5 ho_w5
          rintro _ rfl
          rw [hg7]
          rintro _ rfl
          rintro _ rfl
          rintro _ rfl
          intro _
          show WL _ _ _ _ _ _ _ _
          replace hb_b1 := ho_w5.get hb_b1
          replace hO := hO.ext ho_w5
          replace hE_lo1 := hE_lo1.ext ho_w5
          refine WL.yield_g rfl rfl rfl (Yield.ar (v' := .bool (decide (y.n.toNat > x.n.toNat))) rfl rfl rfl rfl (bool_dec (by omega))) ?_
          refine WL.yield_g rfl rfl rfl (Yield.pick_t rfl rfl rfl) ?_
          refine WL.yield rfl rfl rfl (Yield.pick_f rfl rfl rfl) ?_
          refine WL.yield rfl rfl rfl (Yield.assign rfl rfl) ?_
          refine WL.fin ?_
          refine Nm.block ?_
          refine Nm.code ?_
          refine W.region ?_
          refine WL.yield rfl rfl rfl (Yield.move rfl rfl) ?_
          refine WL.yield rfl rfl rfl (Yield.ar (v' := .int .i64 (((i + 1 : Nat) : Int))) rfl rfl rfl rfl (int_eq (by rw [wrap_i64 (by omega) (by omega)]; omega))) ?_
          refine WL.yield rfl rfl rfl (Yield.assign rfl rfl) ?_
          refine WL.fin ?_
          have ha := atS_step (x := x) hy
          have hb := moreS_step (x := x) hy
          refine Nm.again (i + 1) (Env.has_cons rfl (Env.has_cons rfl (Env.has_cons rfl (Env.has_cons rfl (Env.has_cons rfl (Env.has_cons (by rw [ha]; first | (rw [if_pos (keyE_ord.2 (ord_zero.2 ⟨by first | assumption | omega, BitVec.eq_of_toNat_eq (by first | assumption | omega)⟩))]; rfl) | (rw [if_neg (fun hk => by obtain ⟨k1, k2⟩ := ord_zero.1 (keyE_ord.1 hk); have k3 := congrArg BitVec.toNat k2; omega)]; rfl)) (Env.has_cons (by rw [hb, hg7]; first | rfl | (rw [decide_eq_true hg5]; rfl) | (rw [decide_eq_false hg5]; rfl)) Env.has_nil))))))) ⟨by omega, hE_lo1⟩ (by omega)
      · refine W.skipN ?_
        refine Nm.code ?_
        have hlt_b1_w3 : b1 < w3.heap.size := blk_lt hb_b1
        have hz_w3 := hO.size
        refine W.region_flat 18 Try_follows (by kernel_rfl) (by kernel_rfl) rfl ?_
        refine FL.run (i := 0) [] false (fun v_ _ => v_ = .bool (moreS l x i)) rfl rfl rfl (by kernel_rfl) (Stable.eq _) ?_ ?_
        · intro wb3 ho_wb3
          exact And.intro rfl (Eff.reads (Yield.move rfl rfl) rfl)
        refine FL.run (i := 1) [0] false (fun v_ _ => v_ = .bool (moreS l x i)) rfl rfl rfl (by kernel_rfl) (Stable.eq _) ?_ ?_
        · intro wb3 ho_wb3
          rintro _ rfl
          exact And.intro rfl (Eff.reads (Yield.move rfl rfl) rfl)
        rcases Bool.eq_false_or_eq_true (moreS l x i) with hg7 | hg7
        · refine FL.skip (i := 2) [1] rfl rfl rfl (by kernel_rfl) ?_ ?_
          · intro wb3 ho_wb3
            rintro _ rfl
            rw [hg7]
            exact rfl
          refine FL.skip (i := 3) [1] rfl rfl rfl (by kernel_rfl) ?_ ?_
          · intro wb3 ho_wb3
            rintro _ rfl
            rw [hg7]
            exact rfl
          refine FL.skip (i := 4) [2, 3, 1] rfl rfl rfl (by kernel_rfl) ?_ ?_
          · intro wb3 ho_wb3
            rintro _ rfl
            rintro _ rfl
            rintro _ rfl
            rw [hg7]
            exact rfl
          refine FL.skip (i := 5) [4, 1] rfl rfl rfl (by kernel_rfl) ?_ ?_
          · intro wb3 ho_wb3
            rintro _ rfl
            rintro _ rfl
            rw [hg7]
            exact rfl
          refine FL.skip (i := 6) [5, 1] rfl rfl rfl (by kernel_rfl) ?_ ?_
          · intro wb3 ho_wb3
            rintro _ rfl
            rintro _ rfl
            rw [hg7]
            exact rfl
          refine FL.skip (i := 7) [1] rfl rfl rfl (by kernel_rfl) ?_ ?_
          · intro wb3 ho_wb3
            rintro _ rfl
            rw [hg7]
            exact rfl
          refine FL.skip (i := 8) [7, 1] rfl rfl rfl (by kernel_rfl) ?_ ?_
          · intro wb3 ho_wb3
            rintro _ rfl
            rintro _ rfl
            rw [hg7]
            exact rfl
          refine FL.skip (i := 9) [6, 8, 1] rfl rfl rfl (by kernel_rfl) ?_ ?_
          · intro wb3 ho_wb3
            rintro _ rfl
            rintro _ rfl
            rintro _ rfl
            rw [hg7]
            exact rfl
          refine FL.skip (i := 10) [9, 1] rfl rfl rfl (by kernel_rfl) ?_ ?_
          · intro wb3 ho_wb3
            rintro _ rfl
            rintro _ rfl
            rw [hg7]
            exact rfl
          refine FL.skip (i := 11) [10] rfl rfl rfl (by kernel_rfl) ?_ ?_
          · intro wb3 ho_wb3
            rintro _ rfl
            exact rfl
          refine FL.skip (i := 12) [10] rfl rfl rfl (by kernel_rfl) ?_ ?_
          · intro wb3 ho_wb3
            rintro _ rfl
            exact rfl
          refine FL.skip (i := 13) [11, 12, 10] rfl rfl rfl (by kernel_rfl) ?_ ?_
          · intro wb3 ho_wb3
            rintro _ rfl
            rintro _ rfl
            rintro _ rfl
            exact rfl
          refine FL.skip (i := 14) [13, 10] rfl rfl rfl (by kernel_rfl) ?_ ?_
          · intro wb3 ho_wb3
            rintro _ rfl
            rintro _ rfl
            exact rfl
          refine FL.skip (i := 15) [14, 10] rfl rfl rfl (by kernel_rfl) ?_ ?_
          · intro wb3 ho_wb3
            rintro _ rfl
            rintro _ rfl
            exact rfl
          refine FL.skip (i := 16) [10] rfl rfl rfl (by kernel_rfl) ?_ ?_
          · intro wb3 ho_wb3
            rintro _ rfl
            exact rfl
          refine FL.skip (i := 17) [16, 10] rfl rfl rfl (by kernel_rfl) ?_ ?_
          · intro wb3 ho_wb3
            rintro _ rfl
            rintro _ rfl
            exact rfl
          refine FL.fin rfl [1, 10, 15, 17] ?_
          intro w6 ho_w6
          rintro _ rfl
          rw [hg7]
          rintro _ rfl
          rintro _ rfl
          rintro _ rfl
          intro _
          show WL _ _ _ _ _ _ _ _
          replace hb_b1 := ho_w6.get hb_b1
          replace hO := hO.ext ho_w6
          replace hE_lo1 := hE_lo1.ext ho_w6
          refine WL.skip_g rfl rfl rfl ?_
          refine WL.skip_g rfl rfl rfl ?_
          refine WL.yield rfl rfl rfl (Yield.pick_t rfl rfl rfl) ?_
          refine WL.yield rfl rfl rfl (Yield.assign rfl rfl) ?_
          refine WL.fin ?_
          refine Nm.block ?_
          refine Nm.code ?_
          refine W.region ?_
          refine WL.yield rfl rfl rfl (Yield.move rfl rfl) ?_
          refine WL.yield rfl rfl rfl (Yield.ar (v' := .int .i64 (((i + 1 : Nat) : Int))) rfl rfl rfl rfl (int_eq (by rw [wrap_i64 (by omega) (by omega)]; omega))) ?_
          refine WL.yield rfl rfl rfl (Yield.assign rfl rfl) ?_
          refine WL.fin ?_
          have ha := atS_step (x := x) hy
          have hb := moreS_step (x := x) hy
          refine Nm.again (i + 1) (Env.has_cons rfl (Env.has_cons rfl (Env.has_cons rfl (Env.has_cons rfl (Env.has_cons rfl (Env.has_cons (by rw [ha]; first | (rw [if_pos (keyE_ord.2 (ord_zero.2 ⟨by first | assumption | omega, BitVec.eq_of_toNat_eq (by first | assumption | omega)⟩))]; rfl) | (rw [if_neg (fun hk => by obtain ⟨k1, k2⟩ := ord_zero.1 (keyE_ord.1 hk); have k3 := congrArg BitVec.toNat k2; omega)]; rfl)) (Env.has_cons (by rw [hb, hg7]; first | rfl | (rw [decide_eq_true hg5]; rfl) | (rw [decide_eq_false hg5]; rfl)) Env.has_nil))))))) ⟨by omega, hE_lo1⟩ (by omega)
        · refine FL.run (i := 2) [1] false (fun v_ _ => v_ = .slice (some ad) (l.length) (c)) rfl rfl rfl (by kernel_rfl) (Stable.eq _) ?_ ?_
          · intro wb3 ho_wb3
            rintro _ rfl
            rw [hg7]
            exact And.intro rfl (Eff.reads (Yield.move rfl rfl) rfl)
          refine FL.run (i := 3) [1] false (fun v_ _ => v_ = .int .i64 (i)) rfl rfl rfl (by kernel_rfl) (Stable.eq _) ?_ ?_
          · intro wb3 ho_wb3
            rintro _ rfl
            rw [hg7]
            exact And.intro rfl (Eff.reads (Yield.move rfl rfl) rfl)
          refine FL.run (i := 4) [2, 3, 1] false (fun v_ _ => v_ = .pointer (some ((ad).add (i * 3)))) rfl rfl rfl (by kernel_rfl) (Stable.eq _) ?_ ?_
          · intro wb3 ho_wb3
            rintro _ rfl
            rintro _ rfl
            rintro _ rfl
            rw [hg7]
            exact And.intro rfl (Eff.reads (Yield.indexNat i rfl rfl rfl Try.runUnderlying45 Try.sizeOf66 (by omega)) rfl)
          refine FL.run (i := 5) [4, 1] false (fun v_ _ => v_ = .pointer (some (((ad).add (i * 3)).add 0))) rfl rfl rfl (by kernel_rfl) (Stable.eq _) ?_ ?_
          · intro wb3 ho_wb3
            rintro _ rfl
            rintro _ rfl
            rw [hg7]
            exact And.intro rfl (Eff.reads (Yield.fieldAddr rfl rfl Try.runUnderlying66 rfl Try.sizeOf3) rfl)
          refine FL.run (i := 6) [5, 1] false (fun v_ _ => v_ = .int .i64 (y.f)) rfl rfl rfl (by kernel_rfl) (Stable.eq _) ?_ ?_
          · intro wb3 ho_wb3
            rintro _ rfl
            rintro _ rfl
            rw [hg7]
            have hO := hO.ext ho_wb3
            exact And.intro rfl (Eff.reads (Yield.load (v := .int .i64 (y.f)) rfl rfl Try.isAgg3 (Rd.at0 (Rd.ext hr hO) hy rfl)) rfl)
          refine FL.run (i := 7) [1] false (fun v_ _ => v_ = .pointer (some ⟨b1, 0, none⟩)) rfl rfl rfl (by kernel_rfl) (Stable.eq _) ?_ ?_
          · intro wb3 ho_wb3
            rintro _ rfl
            rw [hg7]
            exact And.intro rfl (Eff.reads (Yield.fieldAt (k := 0) rfl rfl Try.runUnderlying66 rfl Try.sizeOf3 rfl) rfl)
          refine FL.run (i := 8) [7, 1] false (fun v_ _ => v_ = .int .i64 (x.f)) rfl rfl rfl (by kernel_rfl) (Stable.eq _) ?_ ?_
          · intro wb3 ho_wb3
            rintro _ rfl
            rintro _ rfl
            rw [hg7]
            have hb_b1 := ho_wb3.get hb_b1
            exact And.intro rfl (Eff.reads (Yield.load (v := .int .i64 (x.f)) rfl rfl Try.isAgg3 (cell_get hb_b1 rfl)) rfl)
          refine FL.run (i := 9) [6, 8, 1] false (fun v_ _ => v_ = .bool (decide (y.f = x.f))) rfl rfl rfl (by kernel_rfl) (Stable.eq _) ?_ ?_
          · intro wb3 ho_wb3
            rintro _ rfl
            rintro _ rfl
            rintro _ rfl
            rw [hg7]
            exact And.intro rfl (Eff.reads (Yield.ar (v' := .bool (decide (y.f = x.f))) rfl rfl rfl rfl (bool_dec (Iff.rfl))) rfl)
          refine FL.run (i := 10) [9, 1] false (fun v_ _ => v_ = .bool true) rfl rfl rfl (by kernel_rfl) (Stable.eq _) ?_ ?_
          · intro wb3 ho_wb3
            rintro _ rfl
            rw [decide_eq_true hg5]
            rintro _ rfl
            rw [hg7]
            exact And.intro rfl (Eff.reads (Yield.move rfl rfl) rfl)
          refine FL.run (i := 11) [10] false (fun v_ _ => v_ = .slice (some ad) (l.length) (c)) rfl rfl rfl (by kernel_rfl) (Stable.eq _) ?_ ?_
          · intro wb3 ho_wb3
            rintro _ rfl
            exact And.intro rfl (Eff.reads (Yield.move rfl rfl) rfl)
          refine FL.run (i := 12) [10] false (fun v_ _ => v_ = .int .i64 (i)) rfl rfl rfl (by kernel_rfl) (Stable.eq _) ?_ ?_
          · intro wb3 ho_wb3
            rintro _ rfl
            exact And.intro rfl (Eff.reads (Yield.move rfl rfl) rfl)
          refine FL.run (i := 13) [11, 12, 10] false (fun v_ _ => v_ = .pointer (some ((ad).add (i * 3)))) rfl rfl rfl (by kernel_rfl) (Stable.eq _) ?_ ?_
          · intro wb3 ho_wb3
            rintro _ rfl
            rintro _ rfl
            rintro _ rfl
            exact And.intro rfl (Eff.reads (Yield.indexNat i rfl rfl rfl Try.runUnderlying45 Try.sizeOf66 (by omega)) rfl)
          refine FL.run (i := 14) [13, 10] false (fun v_ _ => v_ = .pointer (some (((ad).add (i * 3)).add 1))) rfl rfl rfl (by kernel_rfl) (Stable.eq _) ?_ ?_
          · intro wb3 ho_wb3
            rintro _ rfl
            rintro _ rfl
            exact And.intro rfl (Eff.reads (Yield.fieldAddr rfl rfl Try.runUnderlying66 rfl Try.sizeOf32) rfl)
          refine FL.run (i := 15) [14, 10] false (fun v_ _ => v_ = .int .u64 ((y.n.toNat : Int))) rfl rfl rfl (by kernel_rfl) (Stable.eq _) ?_ ?_
          · intro wb3 ho_wb3
            rintro _ rfl
            rintro _ rfl
            have hO := hO.ext ho_wb3
            exact And.intro rfl (Eff.reads (Yield.load (v := .int .u64 ((y.n.toNat : Int))) rfl rfl Try.isAgg32 (Rd.at (Rd.ext hr hO) hy 1 _ rfl)) rfl)
          refine FL.run (i := 16) [10] false (fun v_ _ => v_ = .pointer (some ⟨b1, 1, none⟩)) rfl rfl rfl (by kernel_rfl) (Stable.eq _) ?_ ?_
          · intro wb3 ho_wb3
            rintro _ rfl
            exact And.intro rfl (Eff.reads (Yield.fieldAt (k := 1) rfl rfl Try.runUnderlying66 rfl Try.sizeOf32 rfl) rfl)
          refine FL.run (i := 17) [16, 10] false (fun v_ _ => v_ = .int .u64 ((x.n.toNat : Int))) rfl rfl rfl (by kernel_rfl) (Stable.eq _) ?_ ?_
          · intro wb3 ho_wb3
            rintro _ rfl
            rintro _ rfl
            have hb_b1 := ho_wb3.get hb_b1
            exact And.intro rfl (Eff.reads (Yield.load (v := .int .u64 ((x.n.toNat : Int))) rfl rfl Try.isAgg32 (cell_get hb_b1 rfl)) rfl)
          refine FL.fin rfl [1, 10, 15, 17] ?_
          intro w7 ho_w7
          rintro _ rfl
          rw [hg7]
          rintro _ rfl
          rintro _ rfl
          rintro _ rfl
          intro _
          show WL _ _ _ _ _ _ _ _
          replace hb_b1 := ho_w7.get hb_b1
          replace hO := hO.ext ho_w7
          replace hE_lo1 := hE_lo1.ext ho_w7
          refine WL.yield_g rfl rfl rfl (Yield.ar (v' := .bool (decide (y.n.toNat > x.n.toNat))) rfl rfl rfl rfl (bool_dec (by omega))) ?_
          refine WL.yield_g rfl rfl rfl (Yield.pick_t rfl rfl rfl) ?_
          refine WL.yield rfl rfl rfl (Yield.pick_f rfl rfl rfl) ?_
          refine WL.yield rfl rfl rfl (Yield.assign rfl rfl) ?_
          refine WL.fin ?_
          refine Nm.block ?_
          refine Nm.code ?_
          refine W.region ?_
          refine WL.yield rfl rfl rfl (Yield.move rfl rfl) ?_
          refine WL.yield rfl rfl rfl (Yield.ar (v' := .int .i64 (((i + 1 : Nat) : Int))) rfl rfl rfl rfl (int_eq (by rw [wrap_i64 (by omega) (by omega)]; omega))) ?_
          refine WL.yield rfl rfl rfl (Yield.assign rfl rfl) ?_
          refine WL.fin ?_
          have ha := atS_step (x := x) hy
          have hb := moreS_step (x := x) hy
          refine Nm.again (i + 1) (Env.has_cons rfl (Env.has_cons rfl (Env.has_cons rfl (Env.has_cons rfl (Env.has_cons rfl (Env.has_cons (by rw [ha]; first | (rw [if_pos (keyE_ord.2 (ord_zero.2 ⟨by first | assumption | omega, BitVec.eq_of_toNat_eq (by first | assumption | omega)⟩))]; rfl) | (rw [if_neg (fun hk => by obtain ⟨k1, k2⟩ := ord_zero.1 (keyE_ord.1 hk); have k3 := congrArg BitVec.toNat k2; omega)]; rfl)) (Env.has_cons (by rw [hb, hg7]; first | rfl | (rw [decide_eq_true hg5]; rfl) | (rw [decide_eq_false hg5]; rfl)) Env.has_nil))))))) ⟨by omega, hE_lo1⟩ (by omega)
    · refine FL.skip (i := 9) [8] rfl rfl rfl (by kernel_rfl) ?_ ?_
      · intro wb1 ho_wb1
        rintro _ rfl
        rw [decide_eq_false hg5]
        exact rfl
      refine FL.skip (i := 10) [8] rfl rfl rfl (by kernel_rfl) ?_ ?_
      · intro wb1 ho_wb1
        rintro _ rfl
        rw [decide_eq_false hg5]
        exact rfl
      refine FL.skip (i := 11) [9, 10, 8] rfl rfl rfl (by kernel_rfl) ?_ ?_
      · intro wb1 ho_wb1
        rintro _ rfl
        rintro _ rfl
        rintro _ rfl
        rw [decide_eq_false hg5]
        exact rfl
      refine FL.skip (i := 12) [11, 8] rfl rfl rfl (by kernel_rfl) ?_ ?_
      · intro wb1 ho_wb1
        rintro _ rfl
        rintro _ rfl
        rw [decide_eq_false hg5]
        exact rfl
      refine FL.skip (i := 13) [12, 8] rfl rfl rfl (by kernel_rfl) ?_ ?_
      · intro wb1 ho_wb1
        rintro _ rfl
        rintro _ rfl
        rw [decide_eq_false hg5]
        exact rfl
      refine FL.skip (i := 14) [8] rfl rfl rfl (by kernel_rfl) ?_ ?_
      · intro wb1 ho_wb1
        rintro _ rfl
        rw [decide_eq_false hg5]
        exact rfl
      refine FL.skip (i := 15) [14, 8] rfl rfl rfl (by kernel_rfl) ?_ ?_
      · intro wb1 ho_wb1
        rintro _ rfl
        rintro _ rfl
        rw [decide_eq_false hg5]
        exact rfl
      refine FL.fin rfl [8, 13, 15] ?_
      intro w8 ho_w8
      rintro _ rfl
      rw [decide_eq_false hg5]
      rintro _ rfl
      rintro _ rfl
      intro _
      show WL _ _ _ _ _ _ _ _
      replace hb_b1 := ho_w8.get hb_b1
      replace hO := hO.ext ho_w8
      replace hE_lo1 := hE_lo1.ext ho_w8
      refine WL.skip_g rfl rfl rfl ?_
      refine WL.yield rfl rfl rfl (Yield.pick_f rfl rfl rfl) ?_
      refine WL.fin ?_
      refine Nm.code ?_
      refine W.cond_false rfl ?_
      refine W.skipN ?_
      refine Nm.code ?_
      have hlt_b1_w8 : b1 < w8.heap.size := blk_lt hb_b1
      have hz_w8 := hO.size
      refine W.region_flat 18 Try_follows (by kernel_rfl) (by kernel_rfl) rfl ?_
      refine FL.run (i := 0) [] false (fun v_ _ => v_ = .bool (moreS l x i)) rfl rfl rfl (by kernel_rfl) (Stable.eq _) ?_ ?_
      · intro wb4 ho_wb4
        exact And.intro rfl (Eff.reads (Yield.move rfl rfl) rfl)
      refine FL.run (i := 1) [0] false (fun v_ _ => v_ = .bool (moreS l x i)) rfl rfl rfl (by kernel_rfl) (Stable.eq _) ?_ ?_
      · intro wb4 ho_wb4
        rintro _ rfl
        exact And.intro rfl (Eff.reads (Yield.move rfl rfl) rfl)
      rcases Bool.eq_false_or_eq_true (moreS l x i) with hg7 | hg7
      · refine FL.skip (i := 2) [1] rfl rfl rfl (by kernel_rfl) ?_ ?_
        · intro wb4 ho_wb4
          rintro _ rfl
          rw [hg7]
          exact rfl
        refine FL.skip (i := 3) [1] rfl rfl rfl (by kernel_rfl) ?_ ?_
        · intro wb4 ho_wb4
          rintro _ rfl
          rw [hg7]
          exact rfl
        refine FL.skip (i := 4) [2, 3, 1] rfl rfl rfl (by kernel_rfl) ?_ ?_
        · intro wb4 ho_wb4
          rintro _ rfl
          rintro _ rfl
          rintro _ rfl
          rw [hg7]
          exact rfl
        refine FL.skip (i := 5) [4, 1] rfl rfl rfl (by kernel_rfl) ?_ ?_
        · intro wb4 ho_wb4
          rintro _ rfl
          rintro _ rfl
          rw [hg7]
          exact rfl
        refine FL.skip (i := 6) [5, 1] rfl rfl rfl (by kernel_rfl) ?_ ?_
        · intro wb4 ho_wb4
          rintro _ rfl
          rintro _ rfl
          rw [hg7]
          exact rfl
        refine FL.skip (i := 7) [1] rfl rfl rfl (by kernel_rfl) ?_ ?_
        · intro wb4 ho_wb4
          rintro _ rfl
          rw [hg7]
          exact rfl
        refine FL.skip (i := 8) [7, 1] rfl rfl rfl (by kernel_rfl) ?_ ?_
        · intro wb4 ho_wb4
          rintro _ rfl
          rintro _ rfl
          rw [hg7]
          exact rfl
        refine FL.skip (i := 9) [6, 8, 1] rfl rfl rfl (by kernel_rfl) ?_ ?_
        · intro wb4 ho_wb4
          rintro _ rfl
          rintro _ rfl
          rintro _ rfl
          rw [hg7]
          exact rfl
        refine FL.skip (i := 10) [9, 1] rfl rfl rfl (by kernel_rfl) ?_ ?_
        · intro wb4 ho_wb4
          rintro _ rfl
          rintro _ rfl
          rw [hg7]
          exact rfl
        refine FL.skip (i := 11) [10] rfl rfl rfl (by kernel_rfl) ?_ ?_
        · intro wb4 ho_wb4
          rintro _ rfl
          exact rfl
        refine FL.skip (i := 12) [10] rfl rfl rfl (by kernel_rfl) ?_ ?_
        · intro wb4 ho_wb4
          rintro _ rfl
          exact rfl
        refine FL.skip (i := 13) [11, 12, 10] rfl rfl rfl (by kernel_rfl) ?_ ?_
        · intro wb4 ho_wb4
          rintro _ rfl
          rintro _ rfl
          rintro _ rfl
          exact rfl
        refine FL.skip (i := 14) [13, 10] rfl rfl rfl (by kernel_rfl) ?_ ?_
        · intro wb4 ho_wb4
          rintro _ rfl
          rintro _ rfl
          exact rfl
        refine FL.skip (i := 15) [14, 10] rfl rfl rfl (by kernel_rfl) ?_ ?_
        · intro wb4 ho_wb4
          rintro _ rfl
          rintro _ rfl
          exact rfl
        refine FL.skip (i := 16) [10] rfl rfl rfl (by kernel_rfl) ?_ ?_
        · intro wb4 ho_wb4
          rintro _ rfl
          exact rfl
        refine FL.skip (i := 17) [16, 10] rfl rfl rfl (by kernel_rfl) ?_ ?_
        · intro wb4 ho_wb4
          rintro _ rfl
          rintro _ rfl
          exact rfl
        refine FL.fin rfl [1, 10, 15, 17] ?_
        intro w9 ho_w9
        rintro _ rfl
        rw [hg7]
        rintro _ rfl
        rintro _ rfl
        rintro _ rfl
        intro _
        show WL _ _ _ _ _ _ _ _
        replace hb_b1 := ho_w9.get hb_b1
        replace hO := hO.ext ho_w9
        replace hE_lo1 := hE_lo1.ext ho_w9
        refine WL.skip_g rfl rfl rfl ?_
        refine WL.skip_g rfl rfl rfl ?_
        refine WL.yield rfl rfl rfl (Yield.pick_t rfl rfl rfl) ?_
        refine WL.yield rfl rfl rfl (Yield.assign rfl rfl) ?_
        refine WL.fin ?_
        refine Nm.block ?_
        refine Nm.code ?_
        refine W.region ?_
        refine WL.yield rfl rfl rfl (Yield.move rfl rfl) ?_
        refine WL.yield rfl rfl rfl (Yield.ar (v' := .int .i64 (((i + 1 : Nat) : Int))) rfl rfl rfl rfl (int_eq (by rw [wrap_i64 (by omega) (by omega)]; omega))) ?_
        refine WL.yield rfl rfl rfl (Yield.assign rfl rfl) ?_
        refine WL.fin ?_
        have ha := atS_step (x := x) hy
        have hb := moreS_step (x := x) hy
        refine Nm.again (i + 1) (Env.has_cons rfl (Env.has_cons rfl (Env.has_cons rfl (Env.has_cons rfl (Env.has_cons rfl (Env.has_cons (by rw [ha]; first | (rw [if_pos (keyE_ord.2 (ord_zero.2 ⟨by first | assumption | omega, BitVec.eq_of_toNat_eq (by first | assumption | omega)⟩))]; rfl) | (rw [if_neg (fun hk => by obtain ⟨k1, k2⟩ := ord_zero.1 (keyE_ord.1 hk); have k3 := congrArg BitVec.toNat k2; omega)]; rfl)) (Env.has_cons (by rw [hb, hg7]; first | rfl | (rw [decide_eq_true hg5]; rfl) | (rw [decide_eq_false hg5]; rfl)) Env.has_nil))))))) ⟨by omega, hE_lo1⟩ (by omega)
      · refine FL.run (i := 2) [1] false (fun v_ _ => v_ = .slice (some ad) (l.length) (c)) rfl rfl rfl (by kernel_rfl) (Stable.eq _) ?_ ?_
        · intro wb4 ho_wb4
          rintro _ rfl
          rw [hg7]
          exact And.intro rfl (Eff.reads (Yield.move rfl rfl) rfl)
        refine FL.run (i := 3) [1] false (fun v_ _ => v_ = .int .i64 (i)) rfl rfl rfl (by kernel_rfl) (Stable.eq _) ?_ ?_
        · intro wb4 ho_wb4
          rintro _ rfl
          rw [hg7]
          exact And.intro rfl (Eff.reads (Yield.move rfl rfl) rfl)
        refine FL.run (i := 4) [2, 3, 1] false (fun v_ _ => v_ = .pointer (some ((ad).add (i * 3)))) rfl rfl rfl (by kernel_rfl) (Stable.eq _) ?_ ?_
        · intro wb4 ho_wb4
          rintro _ rfl
          rintro _ rfl
          rintro _ rfl
          rw [hg7]
          exact And.intro rfl (Eff.reads (Yield.indexNat i rfl rfl rfl Try.runUnderlying45 Try.sizeOf66 (by omega)) rfl)
        refine FL.run (i := 5) [4, 1] false (fun v_ _ => v_ = .pointer (some (((ad).add (i * 3)).add 0))) rfl rfl rfl (by kernel_rfl) (Stable.eq _) ?_ ?_
        · intro wb4 ho_wb4
          rintro _ rfl
          rintro _ rfl
          rw [hg7]
          exact And.intro rfl (Eff.reads (Yield.fieldAddr rfl rfl Try.runUnderlying66 rfl Try.sizeOf3) rfl)
        refine FL.run (i := 6) [5, 1] false (fun v_ _ => v_ = .int .i64 (y.f)) rfl rfl rfl (by kernel_rfl) (Stable.eq _) ?_ ?_
        · intro wb4 ho_wb4
          rintro _ rfl
          rintro _ rfl
          rw [hg7]
          have hO := hO.ext ho_wb4
          exact And.intro rfl (Eff.reads (Yield.load (v := .int .i64 (y.f)) rfl rfl Try.isAgg3 (Rd.at0 (Rd.ext hr hO) hy rfl)) rfl)
        refine FL.run (i := 7) [1] false (fun v_ _ => v_ = .pointer (some ⟨b1, 0, none⟩)) rfl rfl rfl (by kernel_rfl) (Stable.eq _) ?_ ?_
        · intro wb4 ho_wb4
          rintro _ rfl
          rw [hg7]
          exact And.intro rfl (Eff.reads (Yield.fieldAt (k := 0) rfl rfl Try.runUnderlying66 rfl Try.sizeOf3 rfl) rfl)
        refine FL.run (i := 8) [7, 1] false (fun v_ _ => v_ = .int .i64 (x.f)) rfl rfl rfl (by kernel_rfl) (Stable.eq _) ?_ ?_
        · intro wb4 ho_wb4
          rintro _ rfl
          rintro _ rfl
          rw [hg7]
          have hb_b1 := ho_wb4.get hb_b1
          exact And.intro rfl (Eff.reads (Yield.load (v := .int .i64 (x.f)) rfl rfl Try.isAgg3 (cell_get hb_b1 rfl)) rfl)
        refine FL.run (i := 9) [6, 8, 1] false (fun v_ _ => v_ = .bool (decide (y.f = x.f))) rfl rfl rfl (by kernel_rfl) (Stable.eq _) ?_ ?_
        · intro wb4 ho_wb4
          rintro _ rfl
          rintro _ rfl
          rintro _ rfl
          rw [hg7]
          exact And.intro rfl (Eff.reads (Yield.ar (v' := .bool (decide (y.f = x.f))) rfl rfl rfl rfl (bool_dec (Iff.rfl))) rfl)
        refine FL.run (i := 10) [9, 1] false (fun v_ _ => v_ = .bool false) rfl rfl rfl (by kernel_rfl) (Stable.eq _) ?_ ?_
        · intro wb4 ho_wb4
          rintro _ rfl
          rw [decide_eq_false hg5]
          rintro _ rfl
          rw [hg7]
          exact And.intro rfl (Eff.reads (Yield.move rfl rfl) rfl)
        refine FL.skip (i := 11) [10] rfl rfl rfl (by kernel_rfl) ?_ ?_
        · intro wb4 ho_wb4
          rintro _ rfl
          exact rfl
        refine FL.skip (i := 12) [10] rfl rfl rfl (by kernel_rfl) ?_ ?_
        · intro wb4 ho_wb4
          rintro _ rfl
          exact rfl
        refine FL.skip (i := 13) [11, 12, 10] rfl rfl rfl (by kernel_rfl) ?_ ?_
        · intro wb4 ho_wb4
          rintro _ rfl
          rintro _ rfl
          rintro _ rfl
          exact rfl
        refine FL.skip (i := 14) [13, 10] rfl rfl rfl (by kernel_rfl) ?_ ?_
        · intro wb4 ho_wb4
          rintro _ rfl
          rintro _ rfl
          exact rfl
        refine FL.skip (i := 15) [14, 10] rfl rfl rfl (by kernel_rfl) ?_ ?_
        · intro wb4 ho_wb4
          rintro _ rfl
          rintro _ rfl
          exact rfl
        refine FL.skip (i := 16) [10] rfl rfl rfl (by kernel_rfl) ?_ ?_
        · intro wb4 ho_wb4
          rintro _ rfl
          exact rfl
        refine FL.skip (i := 17) [16, 10] rfl rfl rfl (by kernel_rfl) ?_ ?_
        · intro wb4 ho_wb4
          rintro _ rfl
          rintro _ rfl
          exact rfl
        refine FL.fin rfl [1, 10, 15, 17] ?_
        intro w10 ho_w10
        rintro _ rfl
        rw [hg7]
        rintro _ rfl
        rintro _ rfl
        rintro _ rfl
        intro _
        show WL _ _ _ _ _ _ _ _
        replace hb_b1 := ho_w10.get hb_b1
        replace hO := hO.ext ho_w10
        replace hE_lo1 := hE_lo1.ext ho_w10
        refine WL.skip_g rfl rfl rfl ?_
        refine WL.yield_g rfl rfl rfl (Yield.pick_f rfl rfl rfl) ?_
        refine WL.yield rfl rfl rfl (Yield.pick_f rfl rfl rfl) ?_
        refine WL.yield rfl rfl rfl (Yield.assign rfl rfl) ?_
        refine WL.fin ?_
        refine Nm.block ?_
        refine Nm.code ?_
        refine W.region ?_
        refine WL.yield rfl rfl rfl (Yield.move rfl rfl) ?_
        refine WL.yield rfl rfl rfl (Yield.ar (v' := .int .i64 (((i + 1 : Nat) : Int))) rfl rfl rfl rfl (int_eq (by rw [wrap_i64 (by omega) (by omega)]; omega))) ?_
        refine WL.yield rfl rfl rfl (Yield.assign rfl rfl) ?_
        refine WL.fin ?_
        have ha := atS_step (x := x) hy
        have hb := moreS_step (x := x) hy
        refine Nm.again (i + 1) (Env.has_cons rfl (Env.has_cons rfl (Env.has_cons rfl (Env.has_cons rfl (Env.has_cons rfl (Env.has_cons (by rw [ha]; first | (rw [if_pos (keyE_ord.2 (ord_zero.2 ⟨by first | assumption | omega, BitVec.eq_of_toNat_eq (by first | assumption | omega)⟩))]; rfl) | (rw [if_neg (fun hk => by obtain ⟨k1, k2⟩ := ord_zero.1 (keyE_ord.1 hk); have k3 := congrArg BitVec.toNat k2; omega)]; rfl)) (Env.has_cons (by rw [hb, hg7]; first | rfl | (rw [decide_eq_true hg5]; rfl) | (rw [decide_eq_false hg5]; rfl)) Env.has_nil))))))) ⟨by omega, hE_lo1⟩ (by omega)
  · refine W.exitX ?_
    refine Ex.thenX ?_
    refine Ex.thenX ?_
    refine Ex.hit ?_
    refine Nm.code ?_
    refine W.seq ?_
    refine W.region ?_
    refine WL.yield rfl rfl rfl (Yield.move rfl rfl) ?_
    refine WL.yield rfl rfl rfl (Yield.move rfl rfl) ?_
    refine WL.yield rfl rfl rfl (Yield.assign rfl rfl) ?_
    refine WL.yield rfl rfl rfl (Yield.assign rfl rfl) ?_
    refine WL.fin ?_
    refine Nm.code ?_
    refine W.ret_post (fun _ _ h => h) Try.results86 rfl ?_
    have hil : i = l.length := by omega
    subst hil
    exact ⟨hO, rfl⟩

end Go.Proofs.Ytpnoddfjklcahaa
