import Derived.Test.YtpnoddfjklcahaaTr13

set_option linter.all false
namespace Go.Proofs.Ytpnoddfjklcahaa
open Go Go.Lv Go.RowKit Go.Shoal


def r1L (l l2 : List En) (i : Nat) : List En := ((l.take i).filterMap (fst1 l2)).foldl addR []
def r2L (l l2 : List En) (i : Nat) : List En := (l.filterMap (fst1 l2) ++ (l2.take i).filterMap (snd1 l)).foldl addR []
theorem r1L_step {l l2 : List En} {i : Nat} {x : En} (hx : l[i]? = some x) : r1L l l2 (i + 1) = (fst1 l2 x).toList.foldl addR (r1L l l2 i) := by unfold r1L; rw [fm_step hx, List.foldl_append]
theorem r2L_step {l l2 : List En} {i : Nat} {x : En} (hx : l2[i]? = some x) : r2L l l2 (i + 1) = (snd1 l x).toList.foldl addR (r2L l l2 i) := by unfold r2L; rw [fm_step hx, ← List.append_assoc, List.foldl_append]
theorem r12L {l l2 : List En} {i : Nat} (h : ¬ i < l.length) : r1L l l2 i = r2L l l2 0 := by unfold r1L r2L; rw [List.take_of_length_le (by omega)]; simp
theorem r2L_end {l l2 : List En} {i : Nat} (h : ¬ i < l2.length) (hg : good l = true) (hg2 : good l2 = true) : r2L l l2 i = joinR l l2 := by unfold r2L joinR joinL; rw [List.take_of_length_le (by omega), if_pos (by rw [hg, hg2]; rfl)]
theorem r1L_len {l l2 : List En} {i : Nat} (h : l.length ≤ 10000) : (r1L l l2 i).length ≤ 20000 := by
  have := fold_len ((l.take i).filterMap (fst1 l2)) []
  have := fm_len l (fst1 l2) i
  unfold r1L; simp only [List.length_nil] at *; omega
theorem r2L_len {l l2 : List En} {i : Nat} (h : l.length ≤ 10000) (h2 : l2.length ≤ 10000) : (r2L l l2 i).length ≤ 20000 := by
  have := fold_len (l.filterMap (fst1 l2) ++ (l2.take i).filterMap (snd1 l)) []
  have := List.length_filterMap_le (fst1 l2) l
  have := fm_len l2 (snd1 l) i
  unfold r2L; simp only [List.length_nil, List.length_append] at *; omega

theorem rjoin_any (w : World) (A : Option Addr) (c : Nat) (l : List En) (hr : Rd encEn w A l) (hlen : l.length ≤ 10000) (hcap : l.length ≤ c) (A2 : Option Addr) (c2 : Nat) (l2 : List En) (hr2 : Rd encEn w A2 l2) (hlen2 : l2.length ≤ 10000) :
    Fc Try.prog 40 #[.slice (A) (l.length) (c), .slice (A2) (l2.length) (c2)] w (fun v w' => Ext w w' ∧ Sl encEn (joinR l l2) v w') := by
  refine Fc.enter (args := [.slice (A) (l.length) (c), .slice (A2) (l2.length) (c2)]) Try.func40 rfl Try.ntmps40 rfl ?_
  intro K_
  have hO : Only (fun _ => False) w w := Only.refl _ _
  refine W.seq ?_
  refine W.region ?_
  refine WL.yield rfl rfl rfl (Yield.assign rfl rfl) ?_
  refine WL.fin ?_
  refine Nm.code ?_
  refine W.seq ?_
  refine W.seq ?_
  refine W.region ?_
  refine WL.yield rfl rfl rfl (Yield.move rfl rfl) ?_
  refine WL.eff _ rfl rfl (Eff.fn rfl rfl Try.call34 (by rintro _ rfl; exact rgood_any _ _ _ _ (hr.ext hO) (by omega))) ?_
  have hz_w := hO.size
  rintro _ w1 ⟨ho_w1, rfl⟩
  replace hO := hO.ext ho_w1
  refine WL.yield rfl rfl rfl (Yield.not rfl rfl) ?_
  refine WL.yield rfl rfl rfl (Yield.move rfl rfl) ?_
  rcases Bool.eq_false_or_eq_true (!(good l)) with hgl | hgl
  · rw [hgl]
    refine WL.skip_g rfl rfl rfl ?_
    refine WL.skip_g rfl rfl rfl ?_
    refine WL.skip_g rfl rfl rfl ?_
    refine WL.yield rfl rfl rfl (Yield.pick_t rfl rfl rfl) ?_
    refine WL.fin ?_
    refine Nm.code ?_
    refine W.cond_true rfl ?_
    refine W.seq ?_
    refine W.region ?_
    refine WL.yield rfl rfl rfl (Yield.move rfl rfl) ?_
    refine WL.yield rfl rfl rfl (Yield.assign rfl rfl) ?_
    refine WL.fin ?_
    refine Nm.code ?_
    refine W.ret_post (fun _ _ h => h) Try.results40 rfl ?_
    have e : joinR l l2 = l := by unfold joinR; rw [if_neg]; simp_all
    rw [e]
    exact ⟨hO, _, _, rfl, hcap, hr.ext hO⟩
  · rw [hgl]
    refine WL.yield_g rfl rfl rfl (Yield.move rfl rfl) ?_
    refine WL.eff _ rfl rfl (Eff.fn rfl rfl Try.call34 (by rintro _ rfl; exact rgood_any _ _ _ _ (hr2.ext hO) (by omega))) ?_
    have hz_w1 := hO.size
    rintro _ w2 ⟨ho_w2, rfl⟩
    replace hO := hO.ext ho_w2
    refine WL.yield_g rfl rfl rfl (Yield.not rfl rfl) ?_
    refine WL.yield rfl rfl rfl (Yield.pick_f rfl rfl rfl) ?_
    refine WL.fin ?_
    refine Nm.code ?_
    refine W.cond rfl (fun hc0 => ?_) (fun hc0 => ?_)
    · refine W.seq ?_
      refine W.region ?_
      refine WL.yield rfl rfl rfl (Yield.move rfl rfl) ?_
      refine WL.yield rfl rfl rfl (Yield.assign rfl rfl) ?_
      refine WL.fin ?_
      refine Nm.code ?_
      refine W.ret_post (fun _ _ h => h) Try.results40 rfl ?_
      have e : joinR l l2 = l := by unfold joinR; rw [if_neg]; simp_all
      rw [e]
      exact ⟨hO, _, _, rfl, hcap, hr.ext hO⟩
    · have hgood : good l = true := by simp_all
      have hgood2 : good l2 = true := by simp_all
      refine W.skipN ?_
      refine Nm.code ?_
      refine W.seq ?_
      refine W.region ?_
      refine WL.yield rfl rfl rfl (Yield.assign rfl rfl) ?_
      refine WL.fin ?_
      refine Nm.code ?_
      refine W.seq ?_
      refine W.seq ?_
      refine W.region ?_
      refine WL.yield rfl rfl rfl (Yield.assign rfl rfl) ?_
      refine WL.fin ?_
      refine Nm.code ?_
      refine W.block ?_
      have hz_w2 := hO.size
      refine W.loop (σ := Nat × Option Addr × Nat) (fun ⟨i, A_r, c_r⟩ => [(0, .slice (A) (l.length) (c)), (1, .slice (A2) (l2.length) (c2)), (4, .slice (none) (0) (0)), (19, .bool (!(good l2))), (6, .int .i64 (i)), (5, .slice (A_r) ((r1L l l2 i).length) (c_r))]) (fun ⟨i, A_r, c_r⟩ ww => ((i ≤ l.length ∧ (r1L l l2 i).length ≤ c_r ∧ Rd encEn ww A_r (r1L l l2 i)) ∧ Ext w2 ww)) (fun ⟨i, A_r, c_r⟩ => (l.length - i)) ⟨0, none, 0⟩ (Env.has_cons rfl (Env.has_cons rfl (Env.has_cons rfl (Env.has_cons rfl (Env.has_cons rfl (Env.has_cons rfl Env.has_nil)))))) ⟨⟨Nat.zero_le _, Nat.le_refl _, Rd.nil _ _ _⟩, Ext.refl _⟩ ?_
      rintro ⟨i, A_r, c_r⟩ w3 ⟨hp, hE_lo1⟩
      have hO_lo1 := hO
      replace hO := hO_lo1.ext hE_lo1
      have hcr := hp.2.1
      have hr_r := hp.2.2
      have hlr : (r1L l l2 i).length ≤ 100000 := Nat.le_trans (r1L_len hlen) (by omega)
      refine W.seq ?_
      refine W.seq ?_
      refine W.region ?_
      refine WL.yield rfl rfl rfl (Yield.move rfl rfl) ?_
      refine WL.yield rfl rfl rfl (Yield.move rfl rfl) ?_
      refine WL.yield rfl rfl rfl (Yield.lenSlice rfl rfl Try.runUnderlying45) ?_
      refine WL.yield rfl rfl rfl (Yield.bin rfl rfl rfl rfl) ?_
      refine WL.fin ?_
      refine Nm.code ?_
      refine W.cond_dec rfl (fun hi => ?_) (fun hi => ?_)
      · have hlt_x : i < l.length := by omega
        obtain ⟨ad, rfl⟩ := hr.addr hlt_x
        obtain ⟨x, hx⟩ := getD_some hlt_x
        refine W.skipN ?_
        refine Nm.code ?_
        refine W.seq ?_
        refine W.block ?_
        refine W.seq ?_
        refine W.region ?_
        refine WL.yield rfl rfl rfl (Yield.move rfl rfl) ?_
        refine WL.yield rfl rfl rfl (Yield.move rfl rfl) ?_
        refine WL.yield rfl rfl rfl (Yield.move rfl rfl) ?_
        refine WL.yield rfl rfl rfl (Yield.indexNat i rfl rfl rfl Try.runUnderlying45 Try.sizeOf66 (by omega)) ?_
        refine WL.yield rfl rfl rfl (Yield.loadAgg (cs := [.int .i64 (x.f), .int .u64 ((x.n.toNat : Int)), .int .u64 ((x.t.toNat : Int))]) rfl rfl Try.isAgg66 Try.sizeOf66 (Rd.at (Rd.ext hr hO) hx)) ?_
        refine WL.eff _ rfl rfl (Eff.fn rfl rfl Try.call86 (by rintro _ rfl; exact find_any _ _ _ _ (hr2.ext hO) (by omega) x)) ?_
        have hz_w3 := hO.size
        rintro _ w4 ⟨ho_w4, rfl⟩
        replace hr_r := hr_r.ext ho_w4
        replace hO := hO.ext ho_w4
        replace hE_lo1 := hE_lo1.ext ho_w4
        refine WL.yield rfl rfl rfl (Yield.move rfl rfl) ?_
        refine WL.yield rfl rfl rfl (Yield.extract (v := .int .i64 (atS l2 x l2.length)) rfl rfl rfl) ?_
        refine WL.yield rfl rfl rfl (Yield.extract (v := .bool (moreS l2 x l2.length)) rfl rfl rfl) ?_
        refine WL.yield rfl rfl rfl (Yield.assign rfl rfl) ?_
        refine WL.yield rfl rfl rfl (Yield.assign rfl rfl) ?_
        refine WL.fin ?_
        refine Nm.code ?_
        refine W.seq ?_
        refine W.region ?_
        refine WL.yield rfl rfl rfl (Yield.move rfl rfl) ?_
        refine WL.yield rfl rfl rfl (Yield.ar (v' := .bool (decide (0 ≤ atS l2 x l2.length))) rfl rfl rfl rfl (bool_dec (by omega))) ?_
        refine WL.fin ?_
        refine Nm.code ?_
        refine W.cond_dec rfl (fun hc3 => ?_) (fun hc3 => ?_)
        · obtain ⟨k, y, hk, hy, hky⟩ := atS_lt hc3
          have hf : fst1 l2 x = some { x with t := x.t &&& y.t } := by unfold fst1; rw [if_pos hc3, hk, Int.toNat_natCast, hy]; rfl
          rw [hk]
          have hlt_y2 : k < l2.length := (List.getElem?_eq_some_iff.1 hy).1
          obtain ⟨ad2, rfl⟩ := hr2.addr hlt_y2
          have hz_w4 := hO.size
          refine W.region_flat 23 Try_follows (by kernel_rfl) (by kernel_rfl) rfl ?_
          refine FL.run (i := 0) [] false (fun v_ _ => v_ = .slice (A_r) ((r1L l l2 i).length) (c_r)) rfl rfl rfl (by kernel_rfl) (Stable.eq _) ?_ ?_
          · intro wb1 ho_wb1
            exact And.intro rfl (Eff.reads (Yield.move rfl rfl) rfl)
          refine FL.run (i := 1) [] false (fun v_ _ => v_ = .slice (some ad) (l.length) (c)) rfl rfl rfl (by kernel_rfl) (Stable.eq _) ?_ ?_
          · intro wb1 ho_wb1
            exact And.intro rfl (Eff.reads (Yield.move rfl rfl) rfl)
          refine FL.run (i := 2) [] false (fun v_ _ => v_ = .int .i64 (i)) rfl rfl rfl (by kernel_rfl) (Stable.eq _) ?_ ?_
          · intro wb1 ho_wb1
            exact And.intro rfl (Eff.reads (Yield.move rfl rfl) rfl)
          refine FL.run (i := 3) [1, 2] false (fun v_ _ => v_ = .pointer (some ((ad).add (i * 3)))) rfl rfl rfl (by kernel_rfl) (Stable.eq _) ?_ ?_
          · intro wb1 ho_wb1
            rintro _ rfl
            rintro _ rfl
            exact And.intro rfl (Eff.reads (Yield.indexNat i rfl rfl rfl Try.runUnderlying45 Try.sizeOf66 (by omega)) rfl)
          refine FL.run (i := 4) [3] false (fun v_ _ => v_ = .pointer (some (((ad).add (i * 3)).add 0))) rfl rfl rfl (by kernel_rfl) (Stable.eq _) ?_ ?_
          · intro wb1 ho_wb1
            rintro _ rfl
            exact And.intro rfl (Eff.reads (Yield.fieldAddr rfl rfl Try.runUnderlying66 rfl Try.sizeOf3) rfl)
          refine FL.run (i := 5) [4] false (fun v_ _ => v_ = .int .i64 (x.f)) rfl rfl rfl (by kernel_rfl) (Stable.eq _) ?_ ?_
          · intro wb1 ho_wb1
            rintro _ rfl
            have hO := hO.ext ho_wb1
            exact And.intro rfl (Eff.reads (Yield.load (v := .int .i64 (x.f)) rfl rfl Try.isAgg3 (Rd.at0 (Rd.ext hr hO) hx rfl)) rfl)
          refine FL.run (i := 6) [] false (fun v_ _ => v_ = .slice (some ad) (l.length) (c)) rfl rfl rfl (by kernel_rfl) (Stable.eq _) ?_ ?_
          · intro wb1 ho_wb1
            exact And.intro rfl (Eff.reads (Yield.move rfl rfl) rfl)
          refine FL.run (i := 7) [] false (fun v_ _ => v_ = .int .i64 (i)) rfl rfl rfl (by kernel_rfl) (Stable.eq _) ?_ ?_
          · intro wb1 ho_wb1
            exact And.intro rfl (Eff.reads (Yield.move rfl rfl) rfl)
          refine FL.run (i := 8) [6, 7] false (fun v_ _ => v_ = .pointer (some ((ad).add (i * 3)))) rfl rfl rfl (by kernel_rfl) (Stable.eq _) ?_ ?_
          · intro wb1 ho_wb1
            rintro _ rfl
            rintro _ rfl
            exact And.intro rfl (Eff.reads (Yield.indexNat i rfl rfl rfl Try.runUnderlying45 Try.sizeOf66 (by omega)) rfl)
          refine FL.run (i := 9) [8] false (fun v_ _ => v_ = .pointer (some (((ad).add (i * 3)).add 1))) rfl rfl rfl (by kernel_rfl) (Stable.eq _) ?_ ?_
          · intro wb1 ho_wb1
            rintro _ rfl
            exact And.intro rfl (Eff.reads (Yield.fieldAddr rfl rfl Try.runUnderlying66 rfl Try.sizeOf32) rfl)
          refine FL.run (i := 10) [9] false (fun v_ _ => v_ = .int .u64 ((x.n.toNat : Int))) rfl rfl rfl (by kernel_rfl) (Stable.eq _) ?_ ?_
          · intro wb1 ho_wb1
            rintro _ rfl
            have hO := hO.ext ho_wb1
            exact And.intro rfl (Eff.reads (Yield.load (v := .int .u64 ((x.n.toNat : Int))) rfl rfl Try.isAgg32 (Rd.at (Rd.ext hr hO) hx 1 _ rfl)) rfl)
          refine FL.run (i := 11) [] false (fun v_ _ => v_ = .slice (some ad) (l.length) (c)) rfl rfl rfl (by kernel_rfl) (Stable.eq _) ?_ ?_
          · intro wb1 ho_wb1
            exact And.intro rfl (Eff.reads (Yield.move rfl rfl) rfl)
          refine FL.run (i := 12) [] false (fun v_ _ => v_ = .int .i64 (i)) rfl rfl rfl (by kernel_rfl) (Stable.eq _) ?_ ?_
          · intro wb1 ho_wb1
            exact And.intro rfl (Eff.reads (Yield.move rfl rfl) rfl)
          refine FL.run (i := 13) [11, 12] false (fun v_ _ => v_ = .pointer (some ((ad).add (i * 3)))) rfl rfl rfl (by kernel_rfl) (Stable.eq _) ?_ ?_
          · intro wb1 ho_wb1
            rintro _ rfl
            rintro _ rfl
            exact And.intro rfl (Eff.reads (Yield.indexNat i rfl rfl rfl Try.runUnderlying45 Try.sizeOf66 (by omega)) rfl)
          refine FL.run (i := 14) [13] false (fun v_ _ => v_ = .pointer (some (((ad).add (i * 3)).add 2))) rfl rfl rfl (by kernel_rfl) (Stable.eq _) ?_ ?_
          · intro wb1 ho_wb1
            rintro _ rfl
            exact And.intro rfl (Eff.reads (Yield.fieldAddr rfl rfl Try.runUnderlying66 rfl Try.sizeOf32) rfl)
          refine FL.run (i := 15) [14] false (fun v_ _ => v_ = .int .u64 ((x.t.toNat : Int))) rfl rfl rfl (by kernel_rfl) (Stable.eq _) ?_ ?_
          · intro wb1 ho_wb1
            rintro _ rfl
            have hO := hO.ext ho_wb1
            exact And.intro rfl (Eff.reads (Yield.load (v := .int .u64 ((x.t.toNat : Int))) rfl rfl Try.isAgg32 (Rd.at (Rd.ext hr hO) hx 2 _ rfl)) rfl)
          refine FL.run (i := 16) [] false (fun v_ _ => v_ = .slice (some ad2) (l2.length) (c2)) rfl rfl rfl (by kernel_rfl) (Stable.eq _) ?_ ?_
          · intro wb1 ho_wb1
            exact And.intro rfl (Eff.reads (Yield.move rfl rfl) rfl)
          refine FL.run (i := 17) [] false (fun v_ _ => v_ = .int .i64 ((k : Int))) rfl rfl rfl (by kernel_rfl) (Stable.eq _) ?_ ?_
          · intro wb1 ho_wb1
            exact And.intro rfl (Eff.reads (Yield.move rfl rfl) rfl)
          refine FL.run (i := 18) [16, 17] false (fun v_ _ => v_ = .pointer (some ((ad2).add (k * 3)))) rfl rfl rfl (by kernel_rfl) (Stable.eq _) ?_ ?_
          · intro wb1 ho_wb1
            rintro _ rfl
            rintro _ rfl
            exact And.intro rfl (Eff.reads (Yield.indexNat k rfl rfl rfl Try.runUnderlying45 Try.sizeOf66 (by omega)) rfl)
          refine FL.run (i := 19) [18] false (fun v_ _ => v_ = .pointer (some (((ad2).add (k * 3)).add 2))) rfl rfl rfl (by kernel_rfl) (Stable.eq _) ?_ ?_
          · intro wb1 ho_wb1
            rintro _ rfl
            exact And.intro rfl (Eff.reads (Yield.fieldAddr rfl rfl Try.runUnderlying66 rfl Try.sizeOf32) rfl)
          refine FL.run (i := 20) [19] false (fun v_ _ => v_ = .int .u64 ((y.t.toNat : Int))) rfl rfl rfl (by kernel_rfl) (Stable.eq _) ?_ ?_
          · intro wb1 ho_wb1
            rintro _ rfl
            have hO := hO.ext ho_wb1
            exact And.intro rfl (Eff.reads (Yield.load (v := .int .u64 ((y.t.toNat : Int))) rfl rfl Try.isAgg32 (Rd.at (Rd.ext hr2 hO) hy 2 _ rfl)) rfl)
          refine FL.run (i := 21) [15, 20] false (fun v_ _ => v_ = .int .u64 (((x.t &&& y.t).toNat : Int))) rfl rfl rfl (by kernel_rfl) (Stable.eq _) ?_ ?_
          · intro wb1 ho_wb1
            rintro _ rfl
            rintro _ rfl
            exact And.intro rfl (Eff.reads (Yield.ar (v' := .int .u64 (((x.t &&& y.t).toNat : Int))) rfl rfl rfl rfl (int_eq (bv_and x.t y.t))) rfl)
          refine FL.run (i := 22) [5, 10, 21] false (fun v_ _ => v_ = .agg #[.int .i64 (x.f), .int .u64 ((x.n.toNat : Int)), .int .u64 (((x.t &&& y.t).toNat : Int))]) rfl rfl rfl (by kernel_rfl) (Stable.eq _) ?_ ?_
          · intro wb1 ho_wb1
            rintro _ rfl
            rintro _ rfl
            rintro _ rfl
            exact And.intro rfl (Eff.reads (Yield.build (cells := #[.int .i64 (x.f), .int .u64 ((x.n.toNat : Int)), .int .u64 (((x.t &&& y.t).toNat : Int))]) rfl rfl (by kernel_rfl)) rfl)
          refine FL.fin rfl [0, 22] ?_
          intro w5 ho_w5
          rintro _ rfl
          rintro _ rfl
          intro _
          show WL _ _ _ _ _ _ _ _
          replace hr_r := hr_r.ext ho_w5
          replace hO := hO.ext ho_w5
          replace hE_lo1 := hE_lo1.ext ho_w5
          refine WL.eff _ rfl rfl (Eff.fn rfl rfl Try.call36 (by rintro _ rfl; exact radd_any _ _ _ (r1L l l2 i) hr_r hlr hcr { x with t := x.t &&& y.t })) ?_
          have hz_w5 := hO.size
          rintro _ w6 ⟨ho_w6, ⟨A_61, c_61, rfl, hc_61, hr_61⟩⟩
          replace hr_r := hr_r.ext ho_w6
          replace hO := hO.ext ho_w6
          replace hE_lo1 := hE_lo1.ext ho_w6
          refine WL.yield rfl rfl rfl (Yield.assign rfl rfl) ?_
          refine WL.fin ?_
          refine Nm.block ?_
          refine Nm.code ?_
          refine W.region ?_
          refine WL.yield rfl rfl rfl (Yield.move rfl rfl) ?_
          refine WL.yield rfl rfl rfl (Yield.ar (v' := .int .i64 (((i + 1 : Nat) : Int))) rfl rfl rfl rfl (int_eq (by rw [wrap_i64 (by omega) (by omega)]; omega))) ?_
          refine WL.yield rfl rfl rfl (Yield.assign rfl rfl) ?_
          refine WL.fin ?_
          have he := r1L_step (l := l) (l2 := l2) hx
          rw [show fst1 l2 x = some { x with t := x.t &&& y.t } from hf] at he
          simp only [Option.toList, List.foldl_cons, List.foldl_nil] at he
          rw [← he] at hr_61 hc_61
          refine Nm.again ⟨i + 1, A_61, c_61⟩ (Env.has_cons rfl (Env.has_cons rfl (Env.has_cons rfl (Env.has_cons rfl (Env.has_cons rfl (Env.has_cons (congrArg (fun q => some (Value.slice A_61 (List.length q) c_61)) he.symm) Env.has_nil)))))) ⟨⟨by omega, hc_61, hr_61⟩, hE_lo1⟩ (by show l.length - (i + 1) < l.length - i; omega)
        · have hf : fst1 l2 x = if moreS l2 x l2.length = true then none else some x := by unfold fst1; rw [if_neg hc3]
          refine W.seq ?_
          refine W.region ?_
          refine WL.yield rfl rfl rfl (Yield.move rfl rfl) ?_
          refine WL.yield rfl rfl rfl (Yield.not rfl rfl) ?_
          refine WL.fin ?_
          refine Nm.code ?_
          refine W.cond rfl (fun hc4 => ?_) (fun hc4 => ?_)
          · have hmo : moreS l2 x l2.length = false := by simpa using hc4
            rw [hmo] at hf
            refine W.region ?_
            refine WL.yield rfl rfl rfl (Yield.move rfl rfl) ?_
            refine WL.yield rfl rfl rfl (Yield.move rfl rfl) ?_
            refine WL.yield rfl rfl rfl (Yield.move rfl rfl) ?_
            refine WL.yield rfl rfl rfl (Yield.indexNat i rfl rfl rfl Try.runUnderlying45 Try.sizeOf66 (by omega)) ?_
            refine WL.yield rfl rfl rfl (Yield.loadAgg (cs := [.int .i64 (x.f), .int .u64 ((x.n.toNat : Int)), .int .u64 ((x.t.toNat : Int))]) rfl rfl Try.isAgg66 Try.sizeOf66 (Rd.at (Rd.ext hr hO) hx)) ?_
            refine WL.eff _ rfl rfl (Eff.fn rfl rfl Try.call36 (by rintro _ rfl; exact radd_any _ _ _ (r1L l l2 i) hr_r hlr hcr x)) ?_
            have hz_w4 := hO.size
            rintro _ w7 ⟨ho_w7, ⟨A_69, c_69, rfl, hc_69, hr_69⟩⟩
            replace hr_r := hr_r.ext ho_w7
            replace hO := hO.ext ho_w7
            replace hE_lo1 := hE_lo1.ext ho_w7
            refine WL.yield rfl rfl rfl (Yield.assign rfl rfl) ?_
            refine WL.fin ?_
            refine Nm.block ?_
            refine Nm.code ?_
            refine W.region ?_
            refine WL.yield rfl rfl rfl (Yield.move rfl rfl) ?_
            refine WL.yield rfl rfl rfl (Yield.ar (v' := .int .i64 (((i + 1 : Nat) : Int))) rfl rfl rfl rfl (int_eq (by rw [wrap_i64 (by omega) (by omega)]; omega))) ?_
            refine WL.yield rfl rfl rfl (Yield.assign rfl rfl) ?_
            refine WL.fin ?_
            have he := r1L_step (l := l) (l2 := l2) hx
            rw [show fst1 l2 x = some x from hf] at he
            simp only [Option.toList, List.foldl_cons, List.foldl_nil] at he
            rw [← he] at hr_69 hc_69
            refine Nm.again ⟨i + 1, A_69, c_69⟩ (Env.has_cons rfl (Env.has_cons rfl (Env.has_cons rfl (Env.has_cons rfl (Env.has_cons rfl (Env.has_cons (congrArg (fun q => some (Value.slice A_69 (List.length q) c_69)) he.symm) Env.has_nil)))))) ⟨⟨by omega, hc_69, hr_69⟩, hE_lo1⟩ (by show l.length - (i + 1) < l.length - i; omega)
          · have hmo : moreS l2 x l2.length = true := by simpa using hc4
            rw [hmo] at hf
            refine W.skipN ?_
            refine Nm.block ?_
            refine Nm.code ?_
            refine W.region ?_
            refine WL.yield rfl rfl rfl (Yield.move rfl rfl) ?_
            refine WL.yield rfl rfl rfl (Yield.ar (v' := .int .i64 (((i + 1 : Nat) : Int))) rfl rfl rfl rfl (int_eq (by rw [wrap_i64 (by omega) (by omega)]; omega))) ?_
            refine WL.yield rfl rfl rfl (Yield.assign rfl rfl) ?_
            refine WL.fin ?_
            have he : (r1L l l2 (i + 1)) = (r1L l l2 i) := by rw [r1L_step hx, hf]; rfl
            rw [← he] at hr_r hcr
            refine Nm.again ⟨i + 1, A_r, c_r⟩ (Env.has_cons rfl (Env.has_cons rfl (Env.has_cons rfl (Env.has_cons rfl (Env.has_cons rfl (Env.has_cons (congrArg (fun q => some (Value.slice A_r (List.length q) c_r)) he.symm) Env.has_nil)))))) ⟨⟨by omega, hcr, hr_r⟩, hE_lo1⟩ (by show l.length - (i + 1) < l.length - i; omega)
      · have he := r12L (l := l) (l2 := l2) (i := i) (by omega)
        rw [he] at hr_r hcr
        have he0 := he
        refine W.exitX ?_
        refine Ex.thenX ?_
        refine Ex.thenX ?_
        refine Ex.hit ?_
        refine Nm.code ?_
        refine W.seq ?_
        refine W.seq ?_
        refine W.region ?_
        refine WL.yield rfl rfl rfl (Yield.assign rfl rfl) ?_
        refine WL.fin ?_
        refine Nm.code ?_
        refine W.block ?_
        have hz_w3 := hO.size
        refine W.loop (σ := Nat × Option Addr × Nat) (fun ⟨j, A_r, c_r⟩ => [(0, .slice (A) (l.length) (c)), (1, .slice (A2) (l2.length) (c2)), (4, .slice (none) (0) (0)), (19, .bool (!(good l2))), (24, .bool (decide ((i : Int) < l.length))), (9, .int .i64 (j)), (5, .slice (A_r) ((r2L l l2 j).length) (c_r))]) (fun ⟨j, A_r, c_r⟩ ww => ((j ≤ l2.length ∧ (r2L l l2 j).length ≤ c_r ∧ Rd encEn ww A_r (r2L l l2 j)) ∧ Ext w3 ww)) (fun ⟨j, A_r, c_r⟩ => (l2.length - j)) ⟨0, A_r, c_r⟩ (Env.has_cons rfl (Env.has_cons rfl (Env.has_cons rfl (Env.has_cons rfl (Env.has_cons rfl (Env.has_cons rfl (Env.has_cons (congrArg (fun q => some (Value.slice A_r (List.length q) c_r)) he0) Env.has_nil))))))) ⟨⟨Nat.zero_le _, hcr, hr_r⟩, Ext.refl _⟩ ?_
        rintro ⟨j, A_r, c_r⟩ w8 ⟨hq, hE_lo2⟩
        have hO_lo2 := hO
        replace hO := hO_lo2.ext hE_lo2
        have hr_r_lo2 := hr_r
        replace hr_r := hr_r_lo2.ext hE_lo2
        have hcr := hq.2.1
        have hr_s := hq.2.2
        have hlr : (r2L l l2 j).length ≤ 100000 := Nat.le_trans (r2L_len hlen hlen2) (by omega)
        refine W.seq ?_
        refine W.seq ?_
        refine W.region ?_
        refine WL.yield rfl rfl rfl (Yield.move rfl rfl) ?_
        refine WL.yield rfl rfl rfl (Yield.move rfl rfl) ?_
        refine WL.yield rfl rfl rfl (Yield.lenSlice rfl rfl Try.runUnderlying45) ?_
        refine WL.yield rfl rfl rfl (Yield.bin rfl rfl rfl rfl) ?_
        refine WL.fin ?_
        refine Nm.code ?_
        refine W.cond_dec rfl (fun hj => ?_) (fun hj => ?_)
        · have hlt_x : j < l2.length := by omega
          obtain ⟨ad, rfl⟩ := hr2.addr hlt_x
          obtain ⟨x, hx⟩ := getD_some hlt_x
          refine W.skipN ?_
          refine Nm.code ?_
          refine W.seq ?_
          refine W.block ?_
          refine W.seq ?_
          refine W.region ?_
          refine WL.yield rfl rfl rfl (Yield.move rfl rfl) ?_
          refine WL.yield rfl rfl rfl (Yield.move rfl rfl) ?_
          refine WL.yield rfl rfl rfl (Yield.move rfl rfl) ?_
          refine WL.yield rfl rfl rfl (Yield.indexNat j rfl rfl rfl Try.runUnderlying45 Try.sizeOf66 (by omega)) ?_
          refine WL.yield rfl rfl rfl (Yield.loadAgg (cs := [.int .i64 (x.f), .int .u64 ((x.n.toNat : Int)), .int .u64 ((x.t.toNat : Int))]) rfl rfl Try.isAgg66 Try.sizeOf66 (Rd.at (Rd.ext hr2 hO) hx)) ?_
          refine WL.eff _ rfl rfl (Eff.fn rfl rfl Try.call86 (by rintro _ rfl; exact find_any _ _ _ _ (hr.ext hO) (by omega) x)) ?_
          have hz_w8 := hO.size
          rintro _ w9 ⟨ho_w9, rfl⟩
          replace hr_s := hr_s.ext ho_w9
          replace hO := hO.ext ho_w9
          replace hE_lo2 := hE_lo2.ext ho_w9
          refine WL.yield rfl rfl rfl (Yield.move rfl rfl) ?_
          refine WL.yield rfl rfl rfl (Yield.extract (v := .int .i64 (atS l x l.length)) rfl rfl rfl) ?_
          refine WL.yield rfl rfl rfl (Yield.extract (v := .bool (moreS l x l.length)) rfl rfl rfl) ?_
          refine WL.yield rfl rfl rfl (Yield.assign rfl rfl) ?_
          refine WL.yield rfl rfl rfl (Yield.assign rfl rfl) ?_
          refine WL.fin ?_
          refine Nm.code ?_
          refine W.seq ?_
          refine W.region ?_
          refine WL.yield rfl rfl rfl (Yield.move rfl rfl) ?_
          refine WL.yield rfl rfl rfl (Yield.ar (v' := .bool (decide (atS l x l.length < 0))) rfl rfl rfl rfl (bool_dec (by omega))) ?_
          refine WL.yield rfl rfl rfl (Yield.move rfl rfl) ?_
          by_cases hg16 : atS l x l.length < 0
          · rw [decide_eq_true hg16]
            refine WL.yield_g rfl rfl rfl (Yield.move rfl rfl) ?_
            refine WL.yield_g rfl rfl rfl (Yield.not rfl rfl) ?_
            refine WL.yield rfl rfl rfl (Yield.pick_t rfl rfl rfl) ?_
            refine WL.fin ?_
            refine Nm.code ?_
            refine W.cond rfl (fun hc7 => ?_) (fun hc7 => ?_)
            · have hf : snd1 l x = some x := by unfold snd1; rw [if_neg (by omega), if_neg (by simp_all)]
              refine W.region ?_
              refine WL.yield rfl rfl rfl (Yield.move rfl rfl) ?_
              refine WL.yield rfl rfl rfl (Yield.move rfl rfl) ?_
              refine WL.yield rfl rfl rfl (Yield.move rfl rfl) ?_
              refine WL.yield rfl rfl rfl (Yield.indexNat j rfl rfl rfl Try.runUnderlying45 Try.sizeOf66 (by omega)) ?_
              refine WL.yield rfl rfl rfl (Yield.loadAgg (cs := [.int .i64 (x.f), .int .u64 ((x.n.toNat : Int)), .int .u64 ((x.t.toNat : Int))]) rfl rfl Try.isAgg66 Try.sizeOf66 (Rd.at (Rd.ext hr2 hO) hx)) ?_
              refine WL.eff _ rfl rfl (Eff.fn rfl rfl Try.call36 (by rintro _ rfl; exact radd_any _ _ _ (r2L l l2 j) hr_s hlr hcr x)) ?_
              have hz_w9 := hO.size
              rintro _ w10 ⟨ho_w10, ⟨A_96, c_96, rfl, hc_96, hr_96⟩⟩
              replace hr_s := hr_s.ext ho_w10
              replace hO := hO.ext ho_w10
              replace hE_lo2 := hE_lo2.ext ho_w10
              refine WL.yield rfl rfl rfl (Yield.assign rfl rfl) ?_
              refine WL.fin ?_
              refine Nm.block ?_
              refine Nm.code ?_
              refine W.region ?_
              refine WL.yield rfl rfl rfl (Yield.move rfl rfl) ?_
              refine WL.yield rfl rfl rfl (Yield.ar (v' := .int .i64 (((j + 1 : Nat) : Int))) rfl rfl rfl rfl (int_eq (by rw [wrap_i64 (by omega) (by omega)]; omega))) ?_
              refine WL.yield rfl rfl rfl (Yield.assign rfl rfl) ?_
              refine WL.fin ?_
              have he := r2L_step (l := l) (l2 := l2) hx
              rw [show snd1 l x = some x from hf] at he
              simp only [Option.toList, List.foldl_cons, List.foldl_nil] at he
              rw [← he] at hr_96 hc_96
              refine Nm.again ⟨j + 1, A_96, c_96⟩ (Env.has_cons rfl (Env.has_cons rfl (Env.has_cons rfl (Env.has_cons rfl (Env.has_cons rfl (Env.has_cons rfl (Env.has_cons (congrArg (fun q => some (Value.slice A_96 (List.length q) c_96)) he.symm) Env.has_nil))))))) ⟨⟨by omega, hc_96, hr_96⟩, hE_lo2⟩ (by show l2.length - (j + 1) < l2.length - j; omega)
            · have hf : snd1 l x = none := by
                unfold snd1
                first | (rw [if_pos (by omega)]; done) | (rw [if_neg (by omega), if_pos (by simp_all)]; done)
              refine W.skipN ?_
              refine Nm.block ?_
              refine Nm.code ?_
              refine W.region ?_
              refine WL.yield rfl rfl rfl (Yield.move rfl rfl) ?_
              refine WL.yield rfl rfl rfl (Yield.ar (v' := .int .i64 (((j + 1 : Nat) : Int))) rfl rfl rfl rfl (int_eq (by rw [wrap_i64 (by omega) (by omega)]; omega))) ?_
              refine WL.yield rfl rfl rfl (Yield.assign rfl rfl) ?_
              refine WL.fin ?_
              have he : (r2L l l2 (j + 1)) = (r2L l l2 j) := by rw [r2L_step hx, hf]; rfl
              rw [← he] at hr_s hcr
              refine Nm.again ⟨j + 1, A_r, c_r⟩ (Env.has_cons rfl (Env.has_cons rfl (Env.has_cons rfl (Env.has_cons rfl (Env.has_cons rfl (Env.has_cons rfl (Env.has_cons (congrArg (fun q => some (Value.slice A_r (List.length q) c_r)) he.symm) Env.has_nil))))))) ⟨⟨by omega, hcr, hr_s⟩, hE_lo2⟩ (by show l2.length - (j + 1) < l2.length - j; omega)
          · rw [decide_eq_false hg16]
            have hf : snd1 l x = none := by
              unfold snd1
              first | (rw [if_pos (by omega)]; done) | (rw [if_neg (by omega), if_pos (by simp_all)]; done)
            refine WL.skip_g rfl rfl rfl ?_
            refine WL.skip_g rfl rfl rfl ?_
            refine WL.yield rfl rfl rfl (Yield.pick_f rfl rfl rfl) ?_
            refine WL.fin ?_
            refine Nm.code ?_
            refine W.cond_false rfl ?_
            refine W.skipN ?_
            refine Nm.block ?_
            refine Nm.code ?_
            refine W.region ?_
            refine WL.yield rfl rfl rfl (Yield.move rfl rfl) ?_
            refine WL.yield rfl rfl rfl (Yield.ar (v' := .int .i64 (((j + 1 : Nat) : Int))) rfl rfl rfl rfl (int_eq (by rw [wrap_i64 (by omega) (by omega)]; omega))) ?_
            refine WL.yield rfl rfl rfl (Yield.assign rfl rfl) ?_
            refine WL.fin ?_
            have he : (r2L l l2 (j + 1)) = (r2L l l2 j) := by rw [r2L_step hx, hf]; rfl
            rw [← he] at hr_s hcr
            refine Nm.again ⟨j + 1, A_r, c_r⟩ (Env.has_cons rfl (Env.has_cons rfl (Env.has_cons rfl (Env.has_cons rfl (Env.has_cons rfl (Env.has_cons rfl (Env.has_cons (congrArg (fun q => some (Value.slice A_r (List.length q) c_r)) he.symm) Env.has_nil))))))) ⟨⟨by omega, hcr, hr_s⟩, hE_lo2⟩ (by show l2.length - (j + 1) < l2.length - j; omega)
        · refine W.exitX ?_
          refine Ex.thenX ?_
          refine Ex.thenX ?_
          refine Ex.hit ?_
          refine Nm.code ?_
          refine W.seq ?_
          refine W.region ?_
          refine WL.yield rfl rfl rfl (Yield.move rfl rfl) ?_
          refine WL.yield rfl rfl rfl (Yield.assign rfl rfl) ?_
          refine WL.fin ?_
          refine Nm.code ?_
          refine W.ret_post (fun _ _ h => h) Try.results40 rfl ?_
          rw [r2L_end (i := j) (by omega) hgood hgood2] at hr_s hcr ⊢
          exact ⟨hO, _, _, rfl, hcr, hr_s⟩

end Go.Proofs.Ytpnoddfjklcahaa
