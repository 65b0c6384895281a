import Derived.Test.YtpnoddfjklcahaaTr3

set_option linter.all false
namespace Go.Proofs.Ytpnoddfjklcahaa
open Go Go.Lv Go.RowKit Go.Shoal


theorem take_one {α : Type} {l : List α} {i : Nat} {x : α} (hx : l[i]? = some x) : l.take (i + 1) = l.take i ++ [x] := by
  rw [List.take_add_one, hx]; rfl

theorem log1_any (w : World) (A : Option Addr) (c : Nat) (l : List En) (hr : Rd encEn w A l) (hlen : l.length ≤ 100000) :
    Fc Try.prog 24 #[.slice (A) (l.length) (c)] w (fun v w' => Ext w w' ∧ NwSl w.heap.size encEn 66 l v w') := by
  refine Fc.enter (args := [.slice (A) (l.length) (c)]) Try.func24 rfl Try.ntmps24 rfl ?_
  intro K_
  have hO : Only (fun _ => False) w w := Only.refl _ _
  refine W.seq ?_
  refine W.region ?_
  refine WL.yield rfl rfl rfl (Yield.assign rfl rfl) ?_
  refine WL.fin ?_
  refine Nm.code ?_
  refine W.seq ?_
  refine W.region ?_
  refine WL.yield rfl rfl rfl (Yield.assign rfl rfl) ?_
  refine WL.fin ?_
  refine Nm.code ?_
  refine W.seq ?_
  refine W.seq ?_
  refine W.region ?_
  refine WL.yield rfl rfl rfl (Yield.assign rfl rfl) ?_
  refine WL.fin ?_
  refine Nm.code ?_
  refine W.block ?_
  have hz_w := hO.size
  refine W.loop (σ := Nat × Option Addr × Nat) (fun ⟨i, A_v, c_v⟩ => [(0, .slice (A) (l.length) (c)), (2, .slice (none) (0) (0)), (4, .int .i64 (i)), (3, .slice (A_v) ((l.take i).length) (c_v))]) (fun ⟨i, A_v, c_v⟩ ww => ((i ≤ l.length) ∧ Ext w ww ∧ Nw w.heap.size encEn 66 (l.take i) (.slice A_v (l.take i).length c_v) ww)) (fun ⟨i, A_v, c_v⟩ => (l.length - i)) ⟨0, none, 0⟩ (Env.has_cons rfl (Env.has_cons rfl (Env.has_cons rfl (Env.has_cons rfl Env.has_nil)))) ⟨Nat.zero_le _, Ext.refl _, Nw.nil _ _ _ _⟩ ?_
  rintro ⟨i, A_v, c_v⟩ w1 ⟨hp, hE_lo1, hv_v⟩
  have hO_lo1 := hO
  replace hO := hO_lo1.ext hE_lo1
  refine W.seq ?_
  refine W.seq ?_
  refine W.region ?_
  refine WL.yield rfl rfl rfl (Yield.move rfl rfl) ?_
  refine WL.yield rfl rfl rfl (Yield.move rfl rfl) ?_
  refine WL.yield rfl rfl rfl (Yield.lenSlice rfl rfl Try.runUnderlying39) ?_
  refine WL.yield rfl rfl rfl (Yield.bin rfl rfl rfl rfl) ?_
  refine WL.fin ?_
  refine Nm.code ?_
  refine W.cond_dec rfl (fun hi => ?_) (fun hi => ?_)
  · have hlt_x : i < l.length := by omega
    obtain ⟨ad, rfl⟩ := hr.addr hlt_x
    obtain ⟨x, hx⟩ := getD_some hlt_x
    refine W.skipN ?_
    refine Nm.code ?_
    refine W.seq ?_
    refine W.block ?_
    have hz_w1 := hO.size
    refine W.region_flat 18 Try_follows (by kernel_rfl) (by kernel_rfl) rfl ?_
    refine FL.run (i := 0) [] false (fun v_ _ => v_ = .slice (A_v) ((l.take i).length) (c_v)) rfl rfl rfl (by kernel_rfl) (Stable.eq _) ?_ ?_
    · intro wb1 ho_wb1
      exact And.intro rfl (Eff.reads (Yield.move rfl rfl) rfl)
    refine FL.run (i := 1) [] false (fun v_ _ => v_ = .slice (some ad) (l.length) (c)) rfl rfl rfl (by kernel_rfl) (Stable.eq _) ?_ ?_
    · intro wb1 ho_wb1
      exact And.intro rfl (Eff.reads (Yield.move rfl rfl) rfl)
    refine FL.run (i := 2) [] false (fun v_ _ => v_ = .int .i64 (i)) rfl rfl rfl (by kernel_rfl) (Stable.eq _) ?_ ?_
    · intro wb1 ho_wb1
      exact And.intro rfl (Eff.reads (Yield.move rfl rfl) rfl)
    refine FL.run (i := 3) [1, 2] false (fun v_ _ => v_ = .pointer (some ((ad).add (i * 3)))) rfl rfl rfl (by kernel_rfl) (Stable.eq _) ?_ ?_
    · intro wb1 ho_wb1
      rintro _ rfl
      rintro _ rfl
      exact And.intro rfl (Eff.reads (Yield.indexNat i rfl rfl rfl Try.runUnderlying39 Try.sizeOf51 (by omega)) rfl)
    refine FL.run (i := 4) [3] false (fun v_ _ => v_ = .pointer (some (((ad).add (i * 3)).add 0))) rfl rfl rfl (by kernel_rfl) (Stable.eq _) ?_ ?_
    · intro wb1 ho_wb1
      rintro _ rfl
      exact And.intro rfl (Eff.reads (Yield.fieldAddr rfl rfl Try.runUnderlying51 rfl Try.sizeOf3) rfl)
    refine FL.run (i := 5) [4] false (fun v_ _ => v_ = .int .i64 (x.f)) rfl rfl rfl (by kernel_rfl) (Stable.eq _) ?_ ?_
    · intro wb1 ho_wb1
      rintro _ rfl
      have hO := hO.ext ho_wb1
      exact And.intro rfl (Eff.reads (Yield.load (v := .int .i64 (x.f)) rfl rfl Try.isAgg3 (Rd.at0 (Rd.ext hr hO) hx rfl)) rfl)
    refine FL.run (i := 6) [] false (fun v_ _ => v_ = .slice (some ad) (l.length) (c)) rfl rfl rfl (by kernel_rfl) (Stable.eq _) ?_ ?_
    · intro wb1 ho_wb1
      exact And.intro rfl (Eff.reads (Yield.move rfl rfl) rfl)
    refine FL.run (i := 7) [] false (fun v_ _ => v_ = .int .i64 (i)) rfl rfl rfl (by kernel_rfl) (Stable.eq _) ?_ ?_
    · intro wb1 ho_wb1
      exact And.intro rfl (Eff.reads (Yield.move rfl rfl) rfl)
    refine FL.run (i := 8) [6, 7] false (fun v_ _ => v_ = .pointer (some ((ad).add (i * 3)))) rfl rfl rfl (by kernel_rfl) (Stable.eq _) ?_ ?_
    · intro wb1 ho_wb1
      rintro _ rfl
      rintro _ rfl
      exact And.intro rfl (Eff.reads (Yield.indexNat i rfl rfl rfl Try.runUnderlying39 Try.sizeOf51 (by omega)) rfl)
    refine FL.run (i := 9) [8] false (fun v_ _ => v_ = .pointer (some (((ad).add (i * 3)).add 1))) rfl rfl rfl (by kernel_rfl) (Stable.eq _) ?_ ?_
    · intro wb1 ho_wb1
      rintro _ rfl
      exact And.intro rfl (Eff.reads (Yield.fieldAddr rfl rfl Try.runUnderlying51 rfl Try.sizeOf32) rfl)
    refine FL.run (i := 10) [9] false (fun v_ _ => v_ = .int .u64 ((x.n.toNat : Int))) rfl rfl rfl (by kernel_rfl) (Stable.eq _) ?_ ?_
    · intro wb1 ho_wb1
      rintro _ rfl
      have hO := hO.ext ho_wb1
      exact And.intro rfl (Eff.reads (Yield.load (v := .int .u64 ((x.n.toNat : Int))) rfl rfl Try.isAgg32 (Rd.at (Rd.ext hr hO) hx 1 _ rfl)) rfl)
    refine FL.run (i := 11) [] false (fun v_ _ => v_ = .slice (some ad) (l.length) (c)) rfl rfl rfl (by kernel_rfl) (Stable.eq _) ?_ ?_
    · intro wb1 ho_wb1
      exact And.intro rfl (Eff.reads (Yield.move rfl rfl) rfl)
    refine FL.run (i := 12) [] false (fun v_ _ => v_ = .int .i64 (i)) rfl rfl rfl (by kernel_rfl) (Stable.eq _) ?_ ?_
    · intro wb1 ho_wb1
      exact And.intro rfl (Eff.reads (Yield.move rfl rfl) rfl)
    refine FL.run (i := 13) [11, 12] false (fun v_ _ => v_ = .pointer (some ((ad).add (i * 3)))) rfl rfl rfl (by kernel_rfl) (Stable.eq _) ?_ ?_
    · intro wb1 ho_wb1
      rintro _ rfl
      rintro _ rfl
      exact And.intro rfl (Eff.reads (Yield.indexNat i rfl rfl rfl Try.runUnderlying39 Try.sizeOf51 (by omega)) rfl)
    refine FL.run (i := 14) [13] false (fun v_ _ => v_ = .pointer (some (((ad).add (i * 3)).add 2))) rfl rfl rfl (by kernel_rfl) (Stable.eq _) ?_ ?_
    · intro wb1 ho_wb1
      rintro _ rfl
      exact And.intro rfl (Eff.reads (Yield.fieldAddr rfl rfl Try.runUnderlying51 rfl Try.sizeOf49) rfl)
    refine FL.run (i := 15) [14] false (fun v_ _ => v_ = .int .u64 ((x.t.toNat : Int))) rfl rfl rfl (by kernel_rfl) (Stable.eq _) ?_ ?_
    · intro wb1 ho_wb1
      rintro _ rfl
      have hO := hO.ext ho_wb1
      exact And.intro rfl (Eff.reads (Yield.load (v := .int .u64 ((x.t.toNat : Int))) rfl rfl Try.isAgg49 (Rd.at (Rd.ext hr hO) hx 2 _ rfl)) rfl)
    refine FL.run (i := 16) [5, 10, 15] false (fun v_ _ => v_ = .agg #[.int .i64 (x.f), .int .u64 ((x.n.toNat : Int)), .int .u64 ((x.t.toNat : Int))]) rfl rfl rfl (by kernel_rfl) (Stable.eq _) ?_ ?_
    · intro wb1 ho_wb1
      rintro _ rfl
      rintro _ rfl
      rintro _ rfl
      exact And.intro rfl (Eff.reads (Yield.build (cells := #[.int .i64 (x.f), .int .u64 ((x.n.toNat : Int)), .int .u64 ((x.t.toNat : Int))]) rfl rfl (by kernel_rfl)) rfl)
    refine FL.run (i := 17) [16] true (fun v_ w_ => ∃ b_, v_ = .slice (some ⟨b_, 0, none⟩) (1) (1) ∧ w_.heap[b_]? = some (.cells #[.int .i64 (x.f), .int .u64 ((x.n.toNat : Int)), .int .u64 ((x.t.toNat : Int))] 66 (0, 0)) ∧ w1.heap.size ≤ b_) rfl rfl rfl (by kernel_rfl) (Stable.blk (mk := fun b_ => .slice (some ⟨b_, 0, none⟩) (1) (1))) ?_ ?_
    · intro wb1 ho_wb1
      rintro _ rfl
      exact And.intro rfl (Eff.newSlice w1.heap.size ho_wb1.size (Eff.buildSlice (len := 1) (cs := [.int .i64 (x.f), .int .u64 ((x.n.toNat : Int)), .int .u64 ((x.t.toNat : Int))]) [.agg #[.int .i64 (x.f), .int .u64 ((x.n.toNat : Int)), .int .u64 ((x.t.toNat : Int))]] rfl rfl Try.runUnderlying45 Try.sizeOf66 Try.zeroValue66 rfl rfl rfl (List.forall_mem_cons.2 ⟨rfl, (fun _ h => nomatch h)⟩) rfl))
    refine FL.fin rfl [0, 17] ?_
    intro w2 ho_w2
    rintro _ rfl
    rintro _ ⟨b_28, rfl, hb_b_28, hn_b_28⟩
    intro _
    show WL _ _ _ _ _ _ _ _
    have hl_hv_v_b_28 := Nw.below hv_v hn_b_28
    replace hn_b_28 := Nat.le_trans hO.size hn_b_28
    replace hO := hO.ext ho_w2
    replace hv_v := hv_v.ext ho_w2
    replace hE_lo1 := hE_lo1.ext ho_w2
    refine WL.eff _ rfl rfl (Eff.push (E := encEn) (xs := (l.take i)) (ys := [x]) (bytes := 24) (i := Try.t66) (z := .agg #[.int .i64 (0), .int .u64 (0), .int .u64 (0)]) rfl rfl rfl rfl Try.underlying45 Try.underlying45 (by kernel_rfl) rfl rfl rfl rfl hE_lo1 hE_lo1.size (Nat.le_refl _) hv_v (blk_rd (E := encEn) (l := [x]) hb_b_28 rfl) rfl (by rw [List.length_take]; show (min i l.length + 1) * _ ≤ _; omega)) ?_
    rintro v_v2 w3 ⟨hE_lo1, hv_v2, ho_w3⟩
    obtain ⟨A_v2, c_v2, rfl, hc_v2, hv_v2⟩ := hv_v2.toSl
    replace hO := hO_lo1.ext hE_lo1
    refine WL.yield rfl rfl rfl (Yield.assign rfl rfl) ?_
    refine WL.fin ?_
    refine Nm.block ?_
    refine Nm.code ?_
    refine W.region ?_
    refine WL.yield rfl rfl rfl (Yield.move rfl rfl) ?_
    refine WL.yield rfl rfl rfl (Yield.ar (v' := .int .i64 (((i + 1 : Nat) : Int))) rfl rfl rfl rfl (int_eq (by rw [wrap_i64 (by omega) (by omega)]; omega))) ?_
    refine WL.yield rfl rfl rfl (Yield.assign rfl rfl) ?_
    refine WL.fin ?_
    rw [← take_one hx] at hv_v2 ⊢
    refine Nm.again ⟨i + 1, A_v2, c_v2⟩ (Env.has_cons rfl (Env.has_cons rfl (Env.has_cons rfl (Env.has_cons rfl Env.has_nil)))) ⟨by omega, hE_lo1, hv_v2⟩ (by show l.length - (i + 1) < l.length - i; omega)
  · refine W.exitX ?_
    refine Ex.thenX ?_
    refine Ex.thenX ?_
    refine Ex.hit ?_
    refine Nm.code ?_
    refine W.seq ?_
    refine W.region ?_
    refine WL.yield rfl rfl rfl (Yield.move rfl rfl) ?_
    refine WL.yield rfl rfl rfl (Yield.assign rfl rfl) ?_
    refine WL.fin ?_
    refine Nm.code ?_
    refine W.ret_post (fun _ _ h => h) Try.results24 rfl ?_
    rw [List.take_of_length_le (by omega)] at hv_v ⊢
    exact ⟨hO, hv_v.toSl⟩

theorem logs_any (w : World) (A : Option Addr) (c : Nat) (l : List En) (hr : Rd encEn w A l) (hlen : l.length ≤ 100000) (A2 : Option Addr) (c2 : Nat) (l2 : List En) (hr2 : Rd encEn w A2 l2) (hlen2 : l2.length ≤ 100000) :
    Fc Try.prog 23 #[.slice (A) (l.length) (c), .slice (A2) (l2.length) (c2)] w (fun v w' => Ext w w' ∧ v = .bool (decide (l = l2))) := by
  refine Fc.enter (args := [.slice (A) (l.length) (c), .slice (A2) (l2.length) (c2)]) Try.func23 rfl Try.ntmps23 rfl ?_
  intro K_
  have hO : Only (fun _ => False) w w := Only.refl _ _
  refine W.seq ?_
  refine W.region ?_
  refine WL.yield rfl rfl rfl (Yield.assign rfl rfl) ?_
  refine WL.fin ?_
  refine Nm.code ?_
  refine W.seq ?_
  refine W.seq ?_
  refine W.region ?_
  refine WL.yield rfl rfl rfl (Yield.move rfl rfl) ?_
  refine WL.yield rfl rfl rfl (Yield.lenSlice rfl rfl Try.runUnderlying45) ?_
  refine WL.yield rfl rfl rfl (Yield.move rfl rfl) ?_
  refine WL.yield rfl rfl rfl (Yield.lenSlice rfl rfl Try.runUnderlying45) ?_
  refine WL.yield rfl rfl rfl (Yield.ar (v' := .bool (decide (¬ l.length = l2.length))) rfl rfl rfl rfl (bool_dec (by omega))) ?_
  refine WL.fin ?_
  refine Nm.code ?_
  refine W.cond_dec rfl (fun hc0 => ?_) (fun hc0 => ?_)
  · refine W.seq ?_
    refine W.region ?_
    refine WL.yield rfl rfl rfl (Yield.assign rfl rfl) ?_
    refine WL.fin ?_
    refine Nm.code ?_
    refine W.ret_post (fun _ _ h => h) Try.results23 rfl ?_
    first
      | exact ⟨hO, bool_eq (decide_eq_false (fun h => hc0 (congrArg List.length h))).symm⟩
      | exact ⟨hO, bool_eq (decide_eq_false (ne_at hx hy hc2)).symm⟩
      | exact ⟨hO, bool_eq (decide_eq_true (take_all (by omega) (by omega) hp.2)).symm⟩
  · refine W.skipN ?_
    refine Nm.code ?_
    refine W.seq ?_
    refine W.seq ?_
    refine W.region ?_
    refine WL.yield rfl rfl rfl (Yield.assign rfl rfl) ?_
    refine WL.fin ?_
    refine Nm.code ?_
    refine W.block ?_
    have hz_w := hO.size
    refine W.loop (σ := Nat) (fun i => [(0, .slice (A) (l.length) (c)), (1, .slice (A2) (l2.length) (c2)), (10, .bool (decide (¬ l.length = l2.length))), (5, .int .i64 (i)), (4, .bool false)]) (fun i ww => ((i ≤ l.length ∧ l.take i = l2.take i) ∧ Ext w ww)) (fun i => (l.length - i)) 0 (Env.has_cons rfl (Env.has_cons rfl (Env.has_cons rfl (Env.has_cons rfl (Env.has_cons rfl Env.has_nil))))) ⟨⟨Nat.zero_le _, rfl⟩, Ext.refl _⟩ ?_
    rintro i w1 ⟨hp, hE_lo1⟩
    have hO_lo1 := hO
    replace hO := hO_lo1.ext hE_lo1
    refine W.seq ?_
    refine W.seq ?_
    refine W.region ?_
    refine WL.yield rfl rfl rfl (Yield.move rfl rfl) ?_
    refine WL.yield rfl rfl rfl (Yield.move rfl rfl) ?_
    refine WL.yield rfl rfl rfl (Yield.lenSlice rfl rfl Try.runUnderlying45) ?_
    refine WL.yield rfl rfl rfl (Yield.bin rfl rfl rfl rfl) ?_
    refine WL.fin ?_
    refine Nm.code ?_
    refine W.cond_dec rfl (fun hi => ?_) (fun hi => ?_)
    · have hlt_x : i < l.length := by omega
      obtain ⟨ad, rfl⟩ := hr.addr hlt_x
      obtain ⟨x, hx⟩ := getD_some hlt_x
      have hlt_y : i < l2.length := by omega
      obtain ⟨ad2, rfl⟩ := hr2.addr hlt_y
      obtain ⟨y, hy⟩ := getD_some hlt_y
      refine W.skipN ?_
      refine Nm.code ?_
      refine W.seq ?_
      refine W.block ?_
      refine W.seq ?_
      have hz_w1 := hO.size
      refine W.region_flat 8 Try_follows (by kernel_rfl) (by kernel_rfl) rfl ?_
      refine FL.run (i := 0) [] false (fun v_ _ => v_ = .slice (some ad) (l.length) (c)) rfl rfl rfl (by kernel_rfl) (Stable.eq _) ?_ ?_
      · intro wb1 ho_wb1
        exact And.intro rfl (Eff.reads (Yield.move rfl rfl) rfl)
      refine FL.run (i := 1) [] false (fun v_ _ => v_ = .int .i64 (i)) rfl rfl rfl (by kernel_rfl) (Stable.eq _) ?_ ?_
      · intro wb1 ho_wb1
        exact And.intro rfl (Eff.reads (Yield.move rfl rfl) rfl)
      refine FL.run (i := 2) [0, 1] false (fun v_ _ => v_ = .pointer (some ((ad).add (i * 3)))) rfl rfl rfl (by kernel_rfl) (Stable.eq _) ?_ ?_
      · intro wb1 ho_wb1
        rintro _ rfl
        rintro _ rfl
        exact And.intro rfl (Eff.reads (Yield.indexNat i rfl rfl rfl Try.runUnderlying45 Try.sizeOf66 (by omega)) rfl)
      refine FL.run (i := 3) [2] false (fun v_ _ => v_ = .agg #[.int .i64 (x.f), .int .u64 ((x.n.toNat : Int)), .int .u64 ((x.t.toNat : Int))]) rfl rfl rfl (by kernel_rfl) (Stable.eq _) ?_ ?_
      · intro wb1 ho_wb1
        rintro _ rfl
        have hO := hO.ext ho_wb1
        exact And.intro rfl (Eff.reads (Yield.loadAgg (cs := [.int .i64 (x.f), .int .u64 ((x.n.toNat : Int)), .int .u64 ((x.t.toNat : Int))]) rfl rfl Try.isAgg66 Try.sizeOf66 (Rd.at (Rd.ext hr hO) hx)) rfl)
      refine FL.run (i := 4) [] false (fun v_ _ => v_ = .slice (some ad2) (l2.length) (c2)) rfl rfl rfl (by kernel_rfl) (Stable.eq _) ?_ ?_
      · intro wb1 ho_wb1
        exact And.intro rfl (Eff.reads (Yield.move rfl rfl) rfl)
      refine FL.run (i := 5) [] false (fun v_ _ => v_ = .int .i64 (i)) rfl rfl rfl (by kernel_rfl) (Stable.eq _) ?_ ?_
      · intro wb1 ho_wb1
        exact And.intro rfl (Eff.reads (Yield.move rfl rfl) rfl)
      refine FL.run (i := 6) [4, 5] false (fun v_ _ => v_ = .pointer (some ((ad2).add (i * 3)))) rfl rfl rfl (by kernel_rfl) (Stable.eq _) ?_ ?_
      · intro wb1 ho_wb1
        rintro _ rfl
        rintro _ rfl
        exact And.intro rfl (Eff.reads (Yield.indexNat i rfl rfl rfl Try.runUnderlying45 Try.sizeOf66 (by omega)) rfl)
      refine FL.run (i := 7) [6] false (fun v_ _ => v_ = .agg #[.int .i64 (y.f), .int .u64 ((y.n.toNat : Int)), .int .u64 ((y.t.toNat : Int))]) rfl rfl rfl (by kernel_rfl) (Stable.eq _) ?_ ?_
      · intro wb1 ho_wb1
        rintro _ rfl
        have hO := hO.ext ho_wb1
        exact And.intro rfl (Eff.reads (Yield.loadAgg (cs := [.int .i64 (y.f), .int .u64 ((y.n.toNat : Int)), .int .u64 ((y.t.toNat : Int))]) rfl rfl Try.isAgg66 Try.sizeOf66 (Rd.at (Rd.ext hr2 hO) hy)) rfl)
      refine FL.fin rfl [3, 7] ?_
      intro w2 ho_w2
      rintro _ rfl
      rintro _ rfl
      intro _
      show WL _ _ _ _ _ _ _ _
      replace hO := hO.ext ho_w2
      replace hE_lo1 := hE_lo1.ext ho_w2
      refine WL.yield rfl rfl rfl ((Yield.neStruct [.i64, .u64, .u64] [x.f, (x.n.toNat : Int), (x.t.toNat : Int)] [y.f, (y.n.toNat : Int), (y.t.toNat : Int)] rfl rfl rfl (by kernel_rfl) (by kernel_rfl) (by kernel_rfl) (by kernel_rfl) rfl rfl rfl rfl).cast (v' := .bool (decide (¬ x = y))) (bool_eq (en_ne x y))) ?_
      refine WL.fin ?_
      refine Nm.code ?_
      refine W.cond_dec rfl (fun hc2 => ?_) (fun hc2 => ?_)
      · refine W.seq ?_
        refine W.region ?_
        refine WL.yield rfl rfl rfl (Yield.assign rfl rfl) ?_
        refine WL.fin ?_
        refine Nm.code ?_
        refine W.ret_post (fun _ _ h => h) Try.results23 rfl ?_
        first
          | exact ⟨hO, bool_eq (decide_eq_false (fun h => hc0 (congrArg List.length h))).symm⟩
          | exact ⟨hO, bool_eq (decide_eq_false (ne_at hx hy hc2)).symm⟩
          | exact ⟨hO, bool_eq (decide_eq_true (take_all (by omega) (by omega) hp.2)).symm⟩
      · refine W.skipN ?_
        refine Nm.block ?_
        refine Nm.code ?_
        refine W.region ?_
        refine WL.yield rfl rfl rfl (Yield.move rfl rfl) ?_
        refine WL.yield rfl rfl rfl (Yield.ar (v' := .int .i64 (((i + 1 : Nat) : Int))) rfl rfl rfl rfl (int_eq (by rw [wrap_i64 (by omega) (by omega)]; omega))) ?_
        refine WL.yield rfl rfl rfl (Yield.assign rfl rfl) ?_
        refine WL.fin ?_
        refine Nm.again (i + 1) (Env.has_cons rfl (Env.has_cons rfl (Env.has_cons rfl (Env.has_cons rfl (Env.has_cons rfl Env.has_nil))))) ⟨⟨by omega, take_step hx hy hp.2 (Decidable.not_not.1 hc2)⟩, hE_lo1⟩ (by omega)
    · refine W.exitX ?_
      refine Ex.thenX ?_
      refine Ex.thenX ?_
      refine Ex.hit ?_
      refine Nm.code ?_
      refine W.seq ?_
      refine W.region ?_
      refine WL.yield rfl rfl rfl (Yield.assign rfl rfl) ?_
      refine WL.fin ?_
      refine Nm.code ?_
      refine W.ret_post (fun _ _ h => h) Try.results23 rfl ?_
      first
        | exact ⟨hO, bool_eq (decide_eq_false (fun h => hc0 (congrArg List.length h))).symm⟩
        | exact ⟨hO, bool_eq (decide_eq_false (ne_at hx hy hc2)).symm⟩
        | exact ⟨hO, bool_eq (decide_eq_true (take_all (by omega) (by omega) hp.2)).symm⟩

end Go.Proofs.Ytpnoddfjklcahaa
