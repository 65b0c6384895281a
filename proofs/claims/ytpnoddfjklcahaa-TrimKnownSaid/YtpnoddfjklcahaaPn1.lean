import Derived.Test.YtpnoddfjklcahaaLb1

set_option linter.all false
namespace Go.Proofs.Ytpnoddfjklcahaa
open Go Go.Lv Go.RowKit Go.Shoal


theorem bclone (w : World) (A : Option Addr) (c : Nat) (l : List UInt8) (hr : Rd encB w A l) (hlen : l.length ≤ 140737488355328) :
    Fc Try.prog 63 #[.slice (A) (l.length) (c)] w (fun v w' => Ext w w' ∧ NwSl w.heap.size encB 5 l v w') := by
  refine Fc.enter (args := [.slice (A) (l.length) (c)]) Try.func63 rfl Try.ntmps63 rfl ?_
  intro K_
  have hO : Only (fun _ => False) w w := Only.refl _ _
  refine W.seq ?_
  refine W.region ?_
  refine WL.yield rfl rfl rfl (Yield.assign rfl rfl) ?_
  refine WL.fin ?_
  refine Nm.code ?_
  refine W.seq ?_
  refine W.seq ?_
  refine W.region ?_
  refine WL.yield rfl rfl rfl (Yield.move rfl rfl) ?_
  refine WL.yield rfl rfl rfl (Yield.eqSliceNil rfl rfl rfl Try.underlying33) ?_
  refine WL.fin ?_
  refine Nm.code ?_
  refine W.cond rfl (fun hc0 => ?_) (fun hc0 => ?_)
  · refine W.seq ?_
    refine W.region ?_
    refine WL.yield rfl rfl rfl (Yield.assign rfl rfl) ?_
    refine WL.fin ?_
    refine Nm.code ?_
    refine W.ret_post (fun _ _ h => h) Try.results63 rfl ?_
    exact ⟨hO, by rw [hr.none_nil hc0]; exact (Nw.nil _ _ _ _).toSl⟩
  · refine W.skipN ?_
    refine Nm.code ?_
    refine W.seq ?_
    refine W.region ?_
    refine WL.eff _ rfl rfl (Eff.buildEmpty rfl Try.runUnderlying33 Try.sizeOf5) ?_
    rintro _ w1 ⟨_, b1, rfl, hs_b1, rfl, he_w1⟩
    have hb_b1 : w1.heap[b1]? = some (.cells #[] 5 (0, 0)) := by rw [he_w1, hs_b1]; exact new_get _ _
    have ho_w1 : Ext w w1 := by rw [he_w1]; exact Ext.alloc _ _
    clear he_w1
    have hn_b1 : w.heap.size ≤ b1 := by rw [hs_b1]; exact hO.size
    replace hO := hO.ext ho_w1
    refine WL.yield rfl rfl rfl (Yield.move rfl rfl) ?_
    have hv0 : Nw w.heap.size encB 5 [] (.slice (some ⟨b1, 0, none⟩) 0 0) w1 := ⟨Own.fresh hb_b1 rfl (by decide), fun b hb => by simp only [Value.ownBlock, Option.some.injEq] at hb; omega⟩
    refine WL.eff _ rfl rfl (Eff.push (E := encB) (xs := []) (ys := l) (bytes := 1) (i := Try.t5) (z := .int .u8 (0)) rfl rfl rfl rfl Try.underlying33 Try.underlying33 (by kernel_rfl) rfl rfl rfl rfl hO hO.size (Nat.le_refl _) hv0 (hr.ext hO) rfl (by show (0 + l.length) * 1 ≤ _; omega)) ?_
    rintro v_v1 w2 ⟨hO, hv_v1, ho_w2⟩
    obtain ⟨A_v1, c_v1, rfl, hc_v1, hv_v1⟩ := hv_v1.toSl
    refine WL.yield rfl rfl rfl (Yield.assign rfl rfl) ?_
    refine WL.fin ?_
    refine Nm.code ?_
    refine W.ret_post (fun _ _ h => h) Try.results63 rfl ?_
    exact ⟨hO, hv_v1.toSl⟩

theorem spoil_true (w : World) (b : Nat) (x : Value) (g : Bool) (hb : w.heap[b]? = some (.cells #[x, .bool g] 183 (0, 0))) :
    Fc Try.prog 117 #[.pointer (some ⟨b, 0, none⟩), .bool true] w (fun v w' => Only (fun k => k = b) w w' ∧ v = .bool true ∧ w'.heap[b]? = some (.cells #[.slice none 0 0, .bool true] 183 (0, 0))) := by
  refine Fc.enter (args := [.pointer (some ⟨b, 0, none⟩), .bool true]) Try.func117 rfl Try.ntmps117 rfl ?_
  intro K_
  have hO : Only (fun k => k = b) w w := Only.refl _ _
  have hlt_b := blk_lt hb
  refine W.seq ?_
  refine W.region ?_
  refine WL.yield rfl rfl rfl (Yield.assign rfl rfl) ?_
  refine WL.fin ?_
  refine Nm.code ?_
  refine W.seq ?_
  refine W.seq ?_
  refine W.region ?_
  refine WL.yield rfl rfl rfl (Yield.move rfl rfl) ?_
  refine WL.fin ?_
  refine Nm.code ?_
  refine W.cond_true rfl ?_
  refine W.region ?_
  refine WL.yield rfl rfl rfl (Yield.move rfl rfl) ?_
  refine WL.yield rfl rfl rfl (Yield.move rfl rfl) ?_
  refine WL.yield rfl rfl rfl (Yield.nilCheck rfl rfl) ?_
  refine WL.yield rfl rfl rfl (Yield.fieldAt (k := 0) rfl rfl Try.runUnderlying183 rfl Try.sizeOf33 rfl) ?_
  refine WL.eff _ rfl rfl (Eff.storeCell (cs := [x, .bool (g)]) (cs' := [.slice (none) (0) (0), .bool (g)]) rfl rfl rfl Try.sizeOf33 rfl hb rfl rfl) ?_
  rintro _ w1 ⟨ho_w1, hb_new⟩
  replace hb := hb_new
  replace hO := hO.trans ho_w1 (by intro i hi1 hi2; first | exact hi2 | (exfalso; omega) | (left; exact hi2) | (right; exact hi2) | (right; left; exact hi2))
  refine WL.yield rfl rfl rfl (Yield.nilCheck rfl rfl) ?_
  refine WL.yield rfl rfl rfl (Yield.fieldAt (k := 1) rfl rfl Try.runUnderlying183 rfl Try.sizeOf4 rfl) ?_
  refine WL.eff _ rfl rfl (Eff.storeCell (cs := [.slice (none) (0) (0), .bool (g)]) (cs' := [.slice (none) (0) (0), .bool true]) rfl rfl rfl Try.sizeOf4 rfl hb rfl rfl) ?_
  rintro _ w2 ⟨ho_w2, hb_new⟩
  replace hb := hb_new
  replace hO := hO.trans ho_w2 (by intro i hi1 hi2; first | exact hi2 | (exfalso; omega) | (left; exact hi2) | (right; exact hi2) | (right; left; exact hi2))
  refine WL.fin ?_
  refine Nm.code ?_
  refine W.seq ?_
  refine W.region ?_
  refine WL.yield rfl rfl rfl (Yield.move rfl rfl) ?_
  refine WL.yield rfl rfl rfl (Yield.nilCheck rfl rfl) ?_
  refine WL.yield rfl rfl rfl (Yield.fieldAt (k := 1) rfl rfl Try.runUnderlying183 rfl Try.sizeOf4 rfl) ?_
  refine WL.yield rfl rfl rfl (Yield.load (v := .bool true) rfl rfl Try.isAgg4 (cell_get hb rfl)) ?_
  refine WL.yield rfl rfl rfl (Yield.assign rfl rfl) ?_
  refine WL.fin ?_
  refine Nm.code ?_
  refine W.ret_post (fun _ _ h => h) Try.results117 rfl ?_
  exact ⟨hO, rfl, hb⟩

theorem spoil_false (w : World) (b : Nat) (x : Value) (g : Bool) (hb : w.heap[b]? = some (.cells #[x, .bool g] 183 (0, 0))) :
    Fc Try.prog 117 #[.pointer (some ⟨b, 0, none⟩), .bool false] w (fun v w' => Ext w w' ∧ v = .bool g) := by
  refine Fc.enter (args := [.pointer (some ⟨b, 0, none⟩), .bool false]) Try.func117 rfl Try.ntmps117 rfl ?_
  intro K_
  have hO : Only (fun _ => False) w w := Only.refl _ _
  have hlt_b := blk_lt hb
  refine W.seq ?_
  refine W.region ?_
  refine WL.yield rfl rfl rfl (Yield.assign rfl rfl) ?_
  refine WL.fin ?_
  refine Nm.code ?_
  refine W.seq ?_
  refine W.seq ?_
  refine W.region ?_
  refine WL.yield rfl rfl rfl (Yield.move rfl rfl) ?_
  refine WL.fin ?_
  refine Nm.code ?_
  refine W.cond_false rfl ?_
  refine W.skipN ?_
  refine Nm.code ?_
  refine W.seq ?_
  refine W.region ?_
  refine WL.yield rfl rfl rfl (Yield.move rfl rfl) ?_
  refine WL.yield rfl rfl rfl (Yield.nilCheck rfl rfl) ?_
  refine WL.yield rfl rfl rfl (Yield.fieldAt (k := 1) rfl rfl Try.runUnderlying183 rfl Try.sizeOf4 rfl) ?_
  refine WL.yield rfl rfl rfl (Yield.load (v := .bool (g)) rfl rfl Try.isAgg4 (cell_get hb rfl)) ?_
  refine WL.yield rfl rfl rfl (Yield.assign rfl rfl) ?_
  refine WL.fin ?_
  refine Nm.code ?_
  refine W.ret_post (fun _ _ h => h) Try.results117 rfl ?_
  exact ⟨hO, rfl⟩

theorem rnum_bad (w : World) (b : Nat) (A : Option Addr) (l : List UInt8) (hb : w.heap[b]? = some (.cells #[.slice none 0 0, .bool true] 183 (0, 0))) (most : Int) :
    Fc Try.prog 73 #[.pointer (some ⟨b, 0, none⟩), .int .u64 (most)] w (fun v w' => Only (fun k => k = b) w w' ∧ v = .int .u64 0 ∧ w'.heap[b]? = some (.cells #[.slice none 0 0, .bool true] 183 (0, 0))) := by
  refine Fc.enter (args := [.pointer (some ⟨b, 0, none⟩), .int .u64 (most)]) Try.func73 rfl Try.ntmps73 rfl ?_
  intro K_
  have hO : Only (fun k => k = b) w w := Only.refl _ _
  have hlt_b := blk_lt hb
  refine W.seq ?_
  refine W.region ?_
  refine WL.yield rfl rfl rfl (Yield.assign rfl rfl) ?_
  refine WL.fin ?_
  refine Nm.code ?_
  refine W.seq ?_
  refine W.region ?_
  refine WL.yield rfl rfl rfl (Yield.move rfl rfl) ?_
  refine WL.yield rfl rfl rfl (Yield.nilCheck rfl rfl) ?_
  refine WL.yield rfl rfl rfl (Yield.fieldAt (k := 0) rfl rfl Try.runUnderlying183 rfl Try.sizeOf33 rfl) ?_
  refine WL.yield rfl rfl rfl (Yield.load (v := .slice (none) (0) (0)) rfl rfl Try.isAgg33 (cell_get hb rfl)) ?_
  refine WL.eff _ rfl rfl (Eff.fn rfl rfl Try.call116 (by rintro _ rfl; exact Fc.valE (get_any _ none 0 [] (Rd.nil _ _ _)) rfl)) ?_
  have hlt_b_w : b < w.heap.size := blk_lt hb
  have hz_w := hO.size
  rintro _ w1 ⟨ho_w1, rfl⟩
  replace hb := ho_w1.get hb
  replace hO := hO.ext ho_w1
  refine WL.yield rfl rfl rfl (Yield.move rfl rfl) ?_
  refine WL.yield rfl rfl rfl (Yield.extract (v := .int .u64 (0)) rfl rfl rfl) ?_
  refine WL.yield rfl rfl rfl (Yield.extract (v := .int .i64 (0)) rfl rfl rfl) ?_
  refine WL.yield rfl rfl rfl (Yield.assign rfl rfl) ?_
  refine WL.yield rfl rfl rfl (Yield.assign rfl rfl) ?_
  refine WL.fin ?_
  refine Nm.code ?_
  refine W.seq ?_
  refine W.seq ?_
  refine W.region ?_
  refine WL.yield rfl rfl rfl (Yield.move rfl rfl) ?_
  refine WL.yield rfl rfl rfl (Yield.move rfl rfl) ?_
  refine WL.yield rfl rfl rfl (Yield.ar rfl rfl rfl rfl (bool_true (rfl))) ?_
  refine WL.yield rfl rfl rfl (Yield.move rfl rfl) ?_
  refine WL.skip_g rfl rfl rfl ?_
  refine WL.skip_g rfl rfl rfl ?_
  refine WL.skip_g rfl rfl rfl ?_
  refine WL.yield rfl rfl rfl (Yield.pick_t rfl rfl rfl) ?_
  refine WL.eff _ rfl rfl (Eff.fn rfl rfl Try.call117 (by rintro _ rfl; exact spoil_true _ b _ _ hb)) ?_
  have hlt_b_w1 : b < w1.heap.size := blk_lt hb
  have hz_w1 := hO.size
  rintro _ w2 ⟨ho_w2, rfl, hb_new⟩
  replace hb := hb_new
  replace hO := hO.trans ho_w2 (by intro i hi1 hi2; first | exact hi2 | (exfalso; omega) | (left; exact hi2) | (right; exact hi2) | (right; left; exact hi2))
  refine WL.fin ?_
  refine Nm.code ?_
  refine W.cond_true rfl ?_
  refine W.seq ?_
  refine W.region ?_
  refine WL.yield rfl rfl rfl (Yield.assign rfl rfl) ?_
  refine WL.fin ?_
  refine Nm.code ?_
  refine W.ret_post (fun _ _ h => h) Try.results73 rfl ?_
  exact ⟨hO, rfl, hb⟩

theorem rnum_ok (w : World) (b : Nat) (A : Option Addr) (l : List UInt8) (Ar : Option Addr) (cr : Nat) (k : Nat) (hb : w.heap[b]? = some (.cells #[.slice Ar (l.drop k).length cr, .bool false] 183 (0, 0))) (hR : RdP A l Ar cr (some k)) (hr : Rd encB w A l) (most : Nat) :
    Fc Try.prog 73 #[.pointer (some ⟨b, 0, none⟩), .int .u64 ((most : Int))] w (fun v w' => Only (fun k => k = b) w w' ∧ v = .int .u64 (numV l most (some k) : Int) ∧ ∃ A' c', w'.heap[b]? = some (.cells #[rdA A' c' l (numS l most (some k)), rdF (numS l most (some k))] 183 (0, 0)) ∧ RdP A l A' c' (numS l most (some k))) := by
  refine Fc.enter (args := [.pointer (some ⟨b, 0, none⟩), .int .u64 ((most : Int))]) Try.func73 rfl Try.ntmps73 rfl ?_
  intro K_
  have hO : Only (fun k => k = b) w w := Only.refl _ _
  have hlt_b := blk_lt hb
  refine W.seq ?_
  refine W.region ?_
  refine WL.yield rfl rfl rfl (Yield.assign rfl rfl) ?_
  refine WL.fin ?_
  refine Nm.code ?_
  refine W.seq ?_
  refine W.region ?_
  refine WL.yield rfl rfl rfl (Yield.move rfl rfl) ?_
  refine WL.yield rfl rfl rfl (Yield.nilCheck rfl rfl) ?_
  refine WL.yield rfl rfl rfl (Yield.fieldAt (k := 0) rfl rfl Try.runUnderlying183 rfl Try.sizeOf33 rfl) ?_
  refine WL.yield rfl rfl rfl (Yield.load (v := .slice (Ar) ((l.drop k).length) (cr)) rfl rfl Try.isAgg33 (cell_get hb rfl)) ?_
  refine WL.eff _ rfl rfl (Eff.fn rfl rfl Try.call116 (by rintro _ rfl; exact get_any _ Ar cr (l.drop k) (hR.1 _ hr))) ?_
  have hlt_b_w : b < w.heap.size := blk_lt hb
  have hz_w := hO.size
  rintro _ w1 ⟨ho_w1, rfl⟩
  replace hb := ho_w1.get hb
  replace hO := hO.ext ho_w1
  refine WL.yield rfl rfl rfl (Yield.move rfl rfl) ?_
  refine WL.yield rfl rfl rfl (Yield.extract (v := .int .u64 ((getN (l.drop k) : Int))) rfl rfl rfl) ?_
  refine WL.yield rfl rfl rfl (Yield.extract (v := .int .i64 ((getK (l.drop k) : Int))) rfl rfl rfl) ?_
  refine WL.yield rfl rfl rfl (Yield.assign rfl rfl) ?_
  refine WL.yield rfl rfl rfl (Yield.assign rfl rfl) ?_
  refine WL.fin ?_
  refine Nm.code ?_
  refine W.seq ?_
  refine W.seq ?_
  refine W.region ?_
  refine WL.yield rfl rfl rfl (Yield.move rfl rfl) ?_
  refine WL.yield rfl rfl rfl (Yield.move rfl rfl) ?_
  by_cases hk0 : ((getK (l.drop k) : Nat) : Int) = 0
  · refine WL.yield rfl rfl rfl (Yield.ar rfl rfl rfl rfl (bool_true (hk0))) ?_
    refine WL.yield rfl rfl rfl (Yield.move rfl rfl) ?_
    refine WL.skip_g rfl rfl rfl ?_
    refine WL.skip_g rfl rfl rfl ?_
    refine WL.skip_g rfl rfl rfl ?_
    refine WL.yield rfl rfl rfl (Yield.pick_t rfl rfl rfl) ?_
    refine WL.eff _ rfl rfl (Eff.fn rfl rfl Try.call117 (by rintro _ rfl; exact spoil_true _ b _ _ hb)) ?_
    have hlt_b_w1 : b < w1.heap.size := blk_lt hb
    have hz_w1 := hO.size
    rintro _ w2 ⟨ho_w2, rfl, hb_new⟩
    replace hb := hb_new
    replace hO := hO.trans ho_w2 (by intro i hi1 hi2; first | exact hi2 | (exfalso; omega) | (left; exact hi2) | (right; exact hi2) | (right; left; exact hi2))
    refine WL.fin ?_
    refine Nm.code ?_
    refine W.cond_true rfl ?_
    refine W.seq ?_
    refine W.region ?_
    refine WL.yield rfl rfl rfl (Yield.assign rfl rfl) ?_
    refine WL.fin ?_
    refine Nm.code ?_
    refine W.ret_post (fun _ _ h => h) Try.results73 rfl ?_
    have hbad := numS_bad (most := most) (l := l) (k := k) (by first | exact .inl (by omega) | exact .inr (by first | assumption | omega))
    rw [hbad.1, hbad.2]
    exact ⟨hO, rfl, none, 0, hb, RdP.none A l⟩
  · refine WL.yield rfl rfl rfl (Yield.ar rfl rfl rfl rfl (bool_false (hk0))) ?_
    refine WL.yield rfl rfl rfl (Yield.move rfl rfl) ?_
    refine WL.yield_g rfl rfl rfl (Yield.move rfl rfl) ?_
    refine WL.yield_g rfl rfl rfl (Yield.move rfl rfl) ?_
    by_cases hbig : ((getN (l.drop k) : Nat) : Int) > (most : Int)
    · refine WL.yield_g rfl rfl rfl (Yield.ar rfl rfl rfl rfl (bool_true (hbig))) ?_
      refine WL.yield rfl rfl rfl (Yield.pick_f rfl rfl rfl) ?_
      refine WL.eff _ rfl rfl (Eff.fn rfl rfl Try.call117 (by rintro _ rfl; exact spoil_true _ b _ _ hb)) ?_
      have hlt_b_w1 : b < w1.heap.size := blk_lt hb
      have hz_w1 := hO.size
      rintro _ w3 ⟨ho_w3, rfl, hb_new⟩
      replace hb := hb_new
      replace hO := hO.trans ho_w3 (by intro i hi1 hi2; first | exact hi2 | (exfalso; omega) | (left; exact hi2) | (right; exact hi2) | (right; left; exact hi2))
      refine WL.fin ?_
      refine Nm.code ?_
      refine W.cond_true rfl ?_
      refine W.seq ?_
      refine W.region ?_
      refine WL.yield rfl rfl rfl (Yield.assign rfl rfl) ?_
      refine WL.fin ?_
      refine Nm.code ?_
      refine W.ret_post (fun _ _ h => h) Try.results73 rfl ?_
      have hbad := numS_bad (most := most) (l := l) (k := k) (by first | exact .inl (by omega) | exact .inr (by first | assumption | omega))
      rw [hbad.1, hbad.2]
      exact ⟨hO, rfl, none, 0, hb, RdP.none A l⟩
    · refine WL.yield_g rfl rfl rfl (Yield.ar rfl rfl rfl rfl (bool_false (hbig))) ?_
      refine WL.yield rfl rfl rfl (Yield.pick_f rfl rfl rfl) ?_
      refine WL.eff _ rfl rfl (Eff.fn rfl rfl Try.call117 (by rintro _ rfl; exact spoil_false _ b _ _ hb)) ?_
      have hlt_b_w1 : b < w1.heap.size := blk_lt hb
      have hz_w1 := hO.size
      rintro _ w4 ⟨ho_w4, rfl⟩
      replace hb := ho_w4.get hb
      replace hO := hO.ext ho_w4
      refine WL.fin ?_
      refine Nm.code ?_
      refine W.cond_false rfl ?_
      refine W.skipN ?_
      refine Nm.code ?_
      refine W.seq ?_
      refine W.region ?_
      refine WL.yield rfl rfl rfl (Yield.move rfl rfl) ?_
      refine WL.yield rfl rfl rfl (Yield.move rfl rfl) ?_
      refine WL.yield rfl rfl rfl (Yield.nilCheck rfl rfl) ?_
      refine WL.yield rfl rfl rfl (Yield.fieldAt (k := 0) rfl rfl Try.runUnderlying183 rfl Try.sizeOf33 rfl) ?_
      refine WL.yield rfl rfl rfl (Yield.load (v := .slice (Ar) ((l.drop k).length) (cr)) rfl rfl Try.isAgg33 (cell_get hb rfl)) ?_
      refine WL.yield rfl rfl rfl (Yield.move rfl rfl) ?_
      refine WL.yield rfl rfl rfl ((Yield.slice rfl rfl rfl rfl Try.runUnderlying33 Try.sizeOf5 rfl rfl (by omega) (by have := getK_le (l.drop k); omega) (by have h : (l.drop k).length ≤ cr := hR.2; omega)).cast (v' := .slice ((if cr = getK (l.drop k) then Ar else Ar.map (·.add (getK (l.drop k) * 1)))) ((l.drop (k + getK (l.drop k))).length) (cr - getK (l.drop k))) (by rw [show (l.drop (k + getK (l.drop k))).length = (l.drop k).length - getK (l.drop k) by rw [← List.drop_drop, List.length_drop]]; rfl)) ?_
      refine WL.yield rfl rfl rfl (Yield.nilCheck rfl rfl) ?_
      refine WL.yield rfl rfl rfl (Yield.fieldAt (k := 0) rfl rfl Try.runUnderlying183 rfl Try.sizeOf33 rfl) ?_
      refine WL.eff _ rfl rfl (Eff.storeCell (cs := [.slice (Ar) ((l.drop k).length) (cr), .bool false]) (cs' := [.slice ((if cr = getK (l.drop k) then Ar else Ar.map (·.add (getK (l.drop k) * 1)))) ((l.drop (k + getK (l.drop k))).length) (cr - getK (l.drop k)), .bool false]) rfl rfl rfl Try.sizeOf33 rfl hb rfl rfl) ?_
      rintro _ w5 ⟨ho_w5, hb_new⟩
      replace hb := hb_new
      replace hO := hO.trans ho_w5 (by intro i hi1 hi2; first | exact hi2 | (exfalso; omega) | (left; exact hi2) | (right; exact hi2) | (right; left; exact hi2))
      refine WL.fin ?_
      refine Nm.code ?_
      refine W.seq ?_
      refine W.region ?_
      refine WL.yield rfl rfl rfl (Yield.move rfl rfl) ?_
      refine WL.yield rfl rfl rfl (Yield.assign rfl rfl) ?_
      refine WL.fin ?_
      refine Nm.code ?_
      refine W.ret_post (fun _ _ h => h) Try.results73 rfl ?_
      have hgood := numS_good (most := most) (l := l) (k := k) (by first | (rintro (h | h) <;> first | omega | exact absurd h (by assumption) | exact h (by assumption)))
      rw [hgood.1, hgood.2]
      exact ⟨hO, rfl, _, _, hb, hR.step (getK_le _)⟩

theorem rset_bad (w : World) (b : Nat) (A : Option Addr) (l : List UInt8) (hb : w.heap[b]? = some (.cells #[.slice none 0 0, .bool true] 183 (0, 0))) (m : BitVec 64) :
    Fc Try.prog 74 #[.pointer (some ⟨b, 0, none⟩), .int .u64 ((m.toNat : Int))] w (fun v w' => Only (fun k => k = b) w w' ∧ v = .int .u64 0 ∧ w'.heap[b]? = some (.cells #[.slice none 0 0, .bool true] 183 (0, 0))) := by
  refine Fc.enter (args := [.pointer (some ⟨b, 0, none⟩), .int .u64 ((m.toNat : Int))]) Try.func74 rfl Try.ntmps74 rfl ?_
  intro K_
  have hO : Only (fun k => k = b) w w := Only.refl _ _
  have hlt_b := blk_lt hb
  refine W.seq ?_
  refine W.region ?_
  refine WL.yield rfl rfl rfl (Yield.assign rfl rfl) ?_
  refine WL.fin ?_
  refine Nm.code ?_
  refine W.seq ?_
  refine W.region ?_
  refine WL.yield rfl rfl rfl (Yield.move rfl rfl) ?_
  refine WL.yield rfl rfl rfl (Yield.nilCheck rfl rfl) ?_
  refine WL.yield rfl rfl rfl (Yield.fieldAt (k := 0) rfl rfl Try.runUnderlying183 rfl Try.sizeOf33 rfl) ?_
  refine WL.yield rfl rfl rfl (Yield.load (v := .slice (none) (0) (0)) rfl rfl Try.isAgg33 (cell_get hb rfl)) ?_
  refine WL.eff _ rfl rfl (Eff.fn rfl rfl Try.call116 (by rintro _ rfl; exact Fc.valE (get_any _ none 0 [] (Rd.nil _ _ _)) rfl)) ?_
  have hlt_b_w : b < w.heap.size := blk_lt hb
  have hz_w := hO.size
  rintro _ w1 ⟨ho_w1, rfl⟩
  replace hb := ho_w1.get hb
  replace hO := hO.ext ho_w1
  refine WL.yield rfl rfl rfl (Yield.move rfl rfl) ?_
  refine WL.yield rfl rfl rfl (Yield.extract (v := .int .u64 (0)) rfl rfl rfl) ?_
  refine WL.yield rfl rfl rfl (Yield.extract (v := .int .i64 (0)) rfl rfl rfl) ?_
  refine WL.yield rfl rfl rfl (Yield.assign rfl rfl) ?_
  refine WL.yield rfl rfl rfl (Yield.assign rfl rfl) ?_
  refine WL.fin ?_
  refine Nm.code ?_
  refine W.seq ?_
  refine W.seq ?_
  refine W.region ?_
  refine WL.yield rfl rfl rfl (Yield.move rfl rfl) ?_
  refine WL.yield rfl rfl rfl (Yield.move rfl rfl) ?_
  refine WL.yield rfl rfl rfl (Yield.ar rfl rfl rfl rfl (bool_true (rfl))) ?_
  refine WL.yield rfl rfl rfl (Yield.move rfl rfl) ?_
  refine WL.skip_g rfl rfl rfl ?_
  refine WL.skip_g rfl rfl rfl ?_
  refine WL.skip_g rfl rfl rfl ?_
  refine WL.skip_g rfl rfl rfl ?_
  refine WL.yield rfl rfl rfl (Yield.pick_t rfl rfl rfl) ?_
  refine WL.eff _ rfl rfl (Eff.fn rfl rfl Try.call117 (by rintro _ rfl; exact spoil_true _ b _ _ hb)) ?_
  have hlt_b_w1 : b < w1.heap.size := blk_lt hb
  have hz_w1 := hO.size
  rintro _ w2 ⟨ho_w2, rfl, hb_new⟩
  replace hb := hb_new
  replace hO := hO.trans ho_w2 (by intro i hi1 hi2; first | exact hi2 | (exfalso; omega) | (left; exact hi2) | (right; exact hi2) | (right; left; exact hi2))
  refine WL.fin ?_
  refine Nm.code ?_
  refine W.cond_true rfl ?_
  refine W.seq ?_
  refine W.region ?_
  refine WL.yield rfl rfl rfl (Yield.assign rfl rfl) ?_
  refine WL.fin ?_
  refine Nm.code ?_
  refine W.ret_post (fun _ _ h => h) Try.results74 rfl ?_
  exact ⟨hO, rfl, hb⟩

theorem rset_ok (w : World) (b : Nat) (A : Option Addr) (l : List UInt8) (Ar : Option Addr) (cr : Nat) (k : Nat) (hb : w.heap[b]? = some (.cells #[.slice Ar (l.drop k).length cr, .bool false] 183 (0, 0))) (hR : RdP A l Ar cr (some k)) (hr : Rd encB w A l) (m : BitVec 64) :
    Fc Try.prog 74 #[.pointer (some ⟨b, 0, none⟩), .int .u64 ((m.toNat : Int))] w (fun v w' => Only (fun k => k = b) w w' ∧ v = .int .u64 (setV l m (some k) : Int) ∧ ∃ A' c', w'.heap[b]? = some (.cells #[rdA A' c' l (setS l m (some k)), rdF (setS l m (some k))] 183 (0, 0)) ∧ RdP A l A' c' (setS l m (some k))) := by
  refine Fc.enter (args := [.pointer (some ⟨b, 0, none⟩), .int .u64 ((m.toNat : Int))]) Try.func74 rfl Try.ntmps74 rfl ?_
  intro K_
  have hO : Only (fun k => k = b) w w := Only.refl _ _
  have hlt_b := blk_lt hb
  refine W.seq ?_
  refine W.region ?_
  refine WL.yield rfl rfl rfl (Yield.assign rfl rfl) ?_
  refine WL.fin ?_
  refine Nm.code ?_
  refine W.seq ?_
  refine W.region ?_
  refine WL.yield rfl rfl rfl (Yield.move rfl rfl) ?_
  refine WL.yield rfl rfl rfl (Yield.nilCheck rfl rfl) ?_
  refine WL.yield rfl rfl rfl (Yield.fieldAt (k := 0) rfl rfl Try.runUnderlying183 rfl Try.sizeOf33 rfl) ?_
  refine WL.yield rfl rfl rfl (Yield.load (v := .slice (Ar) ((l.drop k).length) (cr)) rfl rfl Try.isAgg33 (cell_get hb rfl)) ?_
  refine WL.eff _ rfl rfl (Eff.fn rfl rfl Try.call116 (by rintro _ rfl; exact get_any _ Ar cr (l.drop k) (hR.1 _ hr))) ?_
  have hlt_b_w : b < w.heap.size := blk_lt hb
  have hz_w := hO.size
  rintro _ w1 ⟨ho_w1, rfl⟩
  replace hb := ho_w1.get hb
  replace hO := hO.ext ho_w1
  refine WL.yield rfl rfl rfl (Yield.move rfl rfl) ?_
  refine WL.yield rfl rfl rfl (Yield.extract (v := .int .u64 ((getN (l.drop k) : Int))) rfl rfl rfl) ?_
  refine WL.yield rfl rfl rfl (Yield.extract (v := .int .i64 ((getK (l.drop k) : Int))) rfl rfl rfl) ?_
  refine WL.yield rfl rfl rfl (Yield.assign rfl rfl) ?_
  refine WL.yield rfl rfl rfl (Yield.assign rfl rfl) ?_
  refine WL.fin ?_
  refine Nm.code ?_
  refine W.seq ?_
  refine W.seq ?_
  refine W.region ?_
  refine WL.yield rfl rfl rfl (Yield.move rfl rfl) ?_
  refine WL.yield rfl rfl rfl (Yield.move rfl rfl) ?_
  by_cases hk0 : ((getK (l.drop k) : Nat) : Int) = 0
  · refine WL.yield rfl rfl rfl (Yield.ar rfl rfl rfl rfl (bool_true (hk0))) ?_
    refine WL.yield rfl rfl rfl (Yield.move rfl rfl) ?_
    refine WL.skip_g rfl rfl rfl ?_
    refine WL.skip_g rfl rfl rfl ?_
    refine WL.skip_g rfl rfl rfl ?_
    refine WL.skip_g rfl rfl rfl ?_
    refine WL.yield rfl rfl rfl (Yield.pick_t rfl rfl rfl) ?_
    refine WL.eff _ rfl rfl (Eff.fn rfl rfl Try.call117 (by rintro _ rfl; exact spoil_true _ b _ _ hb)) ?_
    have hlt_b_w1 : b < w1.heap.size := blk_lt hb
    have hz_w1 := hO.size
    rintro _ w2 ⟨ho_w2, rfl, hb_new⟩
    replace hb := hb_new
    replace hO := hO.trans ho_w2 (by intro i hi1 hi2; first | exact hi2 | (exfalso; omega) | (left; exact hi2) | (right; exact hi2) | (right; left; exact hi2))
    refine WL.fin ?_
    refine Nm.code ?_
    refine W.cond_true rfl ?_
    refine W.seq ?_
    refine W.region ?_
    refine WL.yield rfl rfl rfl (Yield.assign rfl rfl) ?_
    refine WL.fin ?_
    refine Nm.code ?_
    refine W.ret_post (fun _ _ h => h) Try.results74 rfl ?_
    have hbad := setS_bad (m := m) (l := l) (k := k) (by first | exact .inl (by omega) | exact .inr (by first | assumption | omega))
    rw [hbad.1, hbad.2]
    exact ⟨hO, rfl, none, 0, hb, RdP.none A l⟩
  · refine WL.yield rfl rfl rfl (Yield.ar rfl rfl rfl rfl (bool_false (hk0))) ?_
    refine WL.yield rfl rfl rfl (Yield.move rfl rfl) ?_
    refine WL.yield_g rfl rfl rfl (Yield.move rfl rfl) ?_
    refine WL.yield_g rfl rfl rfl (Yield.move rfl rfl) ?_
    have hwi := within_any w1 (BitVec.ofNat 64 (getN (l.drop k))) m
    rw [← nat_bv (getN_lt (l.drop k))] at hwi
    refine WL.eff _ rfl rfl (Eff.fn rfl rfl Try.call30 (by rintro _ rfl; exact Fc.quiet hwi)) ?_
    have hlt_b_w1 : b < w1.heap.size := blk_lt hb
    have hz_w1 := hO.size
    rintro _ w3 ⟨ho_w3, rfl⟩
    replace hb := ho_w3.get hb
    replace hO := hO.ext ho_w3
    refine WL.yield_g rfl rfl rfl (Yield.not rfl rfl) ?_
    refine WL.yield rfl rfl rfl (Yield.pick_f rfl rfl rfl) ?_
    rcases Bool.eq_false_or_eq_true (!(within (BitVec.ofNat 64 (getN (l.drop k))) m)) with hso | hso
    · rw [hso]
      have hso2 : ¬ setOk m (getN (l.drop k)) = true := by simpa [setOk] using hso
      refine WL.eff _ rfl rfl (Eff.fn rfl rfl Try.call117 (by rintro _ rfl; exact spoil_true _ b _ _ hb)) ?_
      have hlt_b_w3 : b < w3.heap.size := blk_lt hb
      have hz_w3 := hO.size
      rintro _ w4 ⟨ho_w4, rfl, hb_new⟩
      replace hb := hb_new
      replace hO := hO.trans ho_w4 (by intro i hi1 hi2; first | exact hi2 | (exfalso; omega) | (left; exact hi2) | (right; exact hi2) | (right; left; exact hi2))
      refine WL.fin ?_
      refine Nm.code ?_
      refine W.cond_true rfl ?_
      refine W.seq ?_
      refine W.region ?_
      refine WL.yield rfl rfl rfl (Yield.assign rfl rfl) ?_
      refine WL.fin ?_
      refine Nm.code ?_
      refine W.ret_post (fun _ _ h => h) Try.results74 rfl ?_
      have hbad := setS_bad (m := m) (l := l) (k := k) (by first | exact .inl (by omega) | exact .inr (by first | assumption | omega))
      rw [hbad.1, hbad.2]
      exact ⟨hO, rfl, none, 0, hb, RdP.none A l⟩
    · rw [hso]
      have hso2 : setOk m (getN (l.drop k)) = true := by simpa [setOk] using hso
      refine WL.eff _ rfl rfl (Eff.fn rfl rfl Try.call117 (by rintro _ rfl; exact spoil_false _ b _ _ hb)) ?_
      have hlt_b_w3 : b < w3.heap.size := blk_lt hb
      have hz_w3 := hO.size
      rintro _ w5 ⟨ho_w5, rfl⟩
      replace hb := ho_w5.get hb
      replace hO := hO.ext ho_w5
      refine WL.fin ?_
      refine Nm.code ?_
      refine W.cond_false rfl ?_
      refine W.skipN ?_
      refine Nm.code ?_
      refine W.seq ?_
      refine W.region ?_
      refine WL.yield rfl rfl rfl (Yield.move rfl rfl) ?_
      refine WL.yield rfl rfl rfl (Yield.move rfl rfl) ?_
      refine WL.yield rfl rfl rfl (Yield.nilCheck rfl rfl) ?_
      refine WL.yield rfl rfl rfl (Yield.fieldAt (k := 0) rfl rfl Try.runUnderlying183 rfl Try.sizeOf33 rfl) ?_
      refine WL.yield rfl rfl rfl (Yield.load (v := .slice (Ar) ((l.drop k).length) (cr)) rfl rfl Try.isAgg33 (cell_get hb rfl)) ?_
      refine WL.yield rfl rfl rfl (Yield.move rfl rfl) ?_
      refine WL.yield rfl rfl rfl ((Yield.slice rfl rfl rfl rfl Try.runUnderlying33 Try.sizeOf5 rfl rfl (by omega) (by have := getK_le (l.drop k); omega) (by have h : (l.drop k).length ≤ cr := hR.2; omega)).cast (v' := .slice ((if cr = getK (l.drop k) then Ar else Ar.map (·.add (getK (l.drop k) * 1)))) ((l.drop (k + getK (l.drop k))).length) (cr - getK (l.drop k))) (by rw [show (l.drop (k + getK (l.drop k))).length = (l.drop k).length - getK (l.drop k) by rw [← List.drop_drop, List.length_drop]]; rfl)) ?_
      refine WL.yield rfl rfl rfl (Yield.nilCheck rfl rfl) ?_
      refine WL.yield rfl rfl rfl (Yield.fieldAt (k := 0) rfl rfl Try.runUnderlying183 rfl Try.sizeOf33 rfl) ?_
      refine WL.eff _ rfl rfl (Eff.storeCell (cs := [.slice (Ar) ((l.drop k).length) (cr), .bool false]) (cs' := [.slice ((if cr = getK (l.drop k) then Ar else Ar.map (·.add (getK (l.drop k) * 1)))) ((l.drop (k + getK (l.drop k))).length) (cr - getK (l.drop k)), .bool false]) rfl rfl rfl Try.sizeOf33 rfl hb rfl rfl) ?_
      rintro _ w6 ⟨ho_w6, hb_new⟩
      replace hb := hb_new
      replace hO := hO.trans ho_w6 (by intro i hi1 hi2; first | exact hi2 | (exfalso; omega) | (left; exact hi2) | (right; exact hi2) | (right; left; exact hi2))
      refine WL.fin ?_
      refine Nm.code ?_
      refine W.seq ?_
      refine W.region ?_
      refine WL.yield rfl rfl rfl (Yield.move rfl rfl) ?_
      refine WL.yield rfl rfl rfl (Yield.assign rfl rfl) ?_
      refine WL.fin ?_
      refine Nm.code ?_
      refine W.ret_post (fun _ _ h => h) Try.results74 rfl ?_
      have hgood := setS_good (m := m) (l := l) (k := k) (by first | (rintro (h | h) <;> first | omega | exact absurd h (by assumption) | exact h (by assumption)))
      rw [hgood.1, hgood.2]
      exact ⟨hO, rfl, _, _, hb, hR.step (getK_le _)⟩

theorem rend_bad (w : World) (b : Nat) (A : Option Addr) (l : List UInt8) (hb : w.heap[b]? = some (.cells #[.slice none 0 0, .bool true] 183 (0, 0))) :
    Fc Try.prog 76 #[.pointer (some ⟨b, 0, none⟩)] w (fun v w' => Ext w w' ∧ v = .bool false) := by
  refine Fc.enter (args := [.pointer (some ⟨b, 0, none⟩)]) Try.func76 rfl Try.ntmps76 rfl ?_
  intro K_
  have hO : Only (fun _ => False) w w := Only.refl _ _
  have hlt_b := blk_lt hb
  refine W.seq ?_
  refine W.region ?_
  refine WL.yield rfl rfl rfl (Yield.assign rfl rfl) ?_
  refine WL.fin ?_
  refine Nm.code ?_
  refine W.seq ?_
  refine W.region ?_
  refine WL.yield rfl rfl rfl (Yield.move rfl rfl) ?_
  refine WL.yield rfl rfl rfl (Yield.nilCheck rfl rfl) ?_
  refine WL.yield rfl rfl rfl (Yield.fieldAt (k := 1) rfl rfl Try.runUnderlying183 rfl Try.sizeOf4 rfl) ?_
  refine WL.yield rfl rfl rfl (Yield.load (v := .bool true) rfl rfl Try.isAgg4 (cell_get hb rfl)) ?_
  refine WL.yield rfl rfl rfl (Yield.not rfl rfl) ?_
  refine WL.yield rfl rfl rfl (Yield.move rfl rfl) ?_
  refine WL.skip_g rfl rfl rfl ?_
  refine WL.skip_g rfl rfl rfl ?_
  refine WL.skip_g rfl rfl rfl ?_
  refine WL.skip_g rfl rfl rfl ?_
  refine WL.skip_g rfl rfl rfl ?_
  refine WL.skip_g rfl rfl rfl ?_
  refine WL.yield rfl rfl rfl (Yield.pick_f rfl rfl rfl) ?_
  refine WL.yield rfl rfl rfl (Yield.assign rfl rfl) ?_
  refine WL.fin ?_
  refine Nm.code ?_
  refine W.ret_post (fun _ _ h => h) Try.results76 rfl ?_
  exact ⟨hO, rfl⟩

theorem rend_ok (w : World) (b : Nat) (l : List UInt8) (Ar : Option Addr) (cr : Nat) (k : Nat) (hb : w.heap[b]? = some (.cells #[.slice Ar (l.drop k).length cr, .bool false] 183 (0, 0))) :
    Fc Try.prog 76 #[.pointer (some ⟨b, 0, none⟩)] w (fun v w' => Ext w w' ∧ v = .bool (decide ((l.drop k).length = 0))) := by
  refine Fc.enter (args := [.pointer (some ⟨b, 0, none⟩)]) Try.func76 rfl Try.ntmps76 rfl ?_
  intro K_
  have hO : Only (fun _ => False) w w := Only.refl _ _
  have hlt_b := blk_lt hb
  refine W.seq ?_
  refine W.region ?_
  refine WL.yield rfl rfl rfl (Yield.assign rfl rfl) ?_
  refine WL.fin ?_
  refine Nm.code ?_
  refine W.seq ?_
  refine W.region ?_
  refine WL.yield rfl rfl rfl (Yield.move rfl rfl) ?_
  refine WL.yield rfl rfl rfl (Yield.nilCheck rfl rfl) ?_
  refine WL.yield rfl rfl rfl (Yield.fieldAt (k := 1) rfl rfl Try.runUnderlying183 rfl Try.sizeOf4 rfl) ?_
  refine WL.yield rfl rfl rfl (Yield.load (v := .bool false) rfl rfl Try.isAgg4 (cell_get hb rfl)) ?_
  refine WL.yield rfl rfl rfl (Yield.not rfl rfl) ?_
  refine WL.yield rfl rfl rfl (Yield.move rfl rfl) ?_
  refine WL.yield_g rfl rfl rfl (Yield.move rfl rfl) ?_
  refine WL.yield_g rfl rfl rfl (Yield.nilCheck rfl rfl) ?_
  refine WL.yield_g rfl rfl rfl (Yield.fieldAt (k := 0) rfl rfl Try.runUnderlying183 rfl Try.sizeOf33 rfl) ?_
  refine WL.yield_g rfl rfl rfl (Yield.load (v := .slice (Ar) ((l.drop k).length) (cr)) rfl rfl Try.isAgg33 (cell_get hb rfl)) ?_
  refine WL.yield_g rfl rfl rfl (Yield.lenSlice rfl rfl Try.runUnderlying33) ?_
  refine WL.yield_g rfl rfl rfl (Yield.ar (v' := .bool (decide ((l.drop k).length = 0))) rfl rfl rfl rfl (bool_dec (by omega))) ?_
  refine WL.yield rfl rfl rfl (Yield.pick_t rfl rfl rfl) ?_
  refine WL.yield rfl rfl rfl (Yield.assign rfl rfl) ?_
  refine WL.fin ?_
  refine Nm.code ?_
  refine W.ret_post (fun _ _ h => h) Try.results76 rfl ?_
  exact ⟨hO, rfl⟩

theorem rnum_any (w : World) (b : Nat) (A : Option Addr) (l : List UInt8) (Ar : Option Addr) (cr : Nat) (st : Option Nat) (hb : w.heap[b]? = some (.cells #[rdA Ar cr l st, rdF st] 183 (0, 0))) (hR : RdP A l Ar cr st) (hr : Rd encB w A l) (most : Nat) :
    Fc Try.prog 73 #[.pointer (some ⟨b, 0, none⟩), .int .u64 (most : Int)] w (fun v w' => Only (fun k => k = b) w w' ∧ v = .int .u64 (numV l most st : Int) ∧ ∃ A' c', w'.heap[b]? = some (.cells #[rdA A' c' l (numS l most st), rdF (numS l most st)] 183 (0, 0)) ∧ RdP A l A' c' (numS l most st)) := by
  cases st with
  | none => exact (rnum_bad w b A l hb most).mono fun v w' ⟨h1, h2, h3⟩ => ⟨h1, h2, none, 0, h3, RdP.none A l⟩
  | some k => exact rnum_ok w b A l Ar cr k hb hR hr most

theorem rset_any (w : World) (b : Nat) (A : Option Addr) (l : List UInt8) (Ar : Option Addr) (cr : Nat) (st : Option Nat) (hb : w.heap[b]? = some (.cells #[rdA Ar cr l st, rdF st] 183 (0, 0))) (hR : RdP A l Ar cr st) (hr : Rd encB w A l) (m : BitVec 64) :
    Fc Try.prog 74 #[.pointer (some ⟨b, 0, none⟩), .int .u64 (m.toNat : Int)] w (fun v w' => Only (fun k => k = b) w w' ∧ v = .int .u64 (setV l m st : Int) ∧ ∃ A' c', w'.heap[b]? = some (.cells #[rdA A' c' l (setS l m st), rdF (setS l m st)] 183 (0, 0)) ∧ RdP A l A' c' (setS l m st)) := by
  cases st with
  | none => exact (rset_bad w b A l hb m).mono fun v w' ⟨h1, h2, h3⟩ => ⟨h1, h2, none, 0, h3, RdP.none A l⟩
  | some k => exact rset_ok w b A l Ar cr k hb hR hr m

theorem rend_any (w : World) (b : Nat) (l : List UInt8) (Ar : Option Addr) (cr : Nat) (st : Option Nat) (hb : w.heap[b]? = some (.cells #[rdA Ar cr l st, rdF st] 183 (0, 0))) :
    Fc Try.prog 76 #[.pointer (some ⟨b, 0, none⟩)] w (fun v w' => Ext w w' ∧ v = .bool (endO l st)) := by
  cases st with
  | none => exact rend_bad w b none l hb
  | some k => exact rend_ok w b l Ar cr k hb

theorem ffail (w : World) (b : Nat) (x y : Value) (hb : w.heap[b]? = some (.cells #[x, y] 138 (0, 0))) :
    Fc Try.prog 119 #[.pointer (some ⟨b, 0, none⟩)] w (fun v w' => Only (fun k => k = b) w w' ∧ v = .tuple #[] ∧ w'.heap[b]? = some (.cells #[.slice none 0 0, .bool true] 138 (0, 0))) := by
  refine Fc.enter (args := [.pointer (some ⟨b, 0, none⟩)]) Try.func119 rfl Try.ntmps119 rfl ?_
  intro K_
  have hO : Only (fun k => k = b) w w := Only.refl _ _
  have hlt_b := blk_lt hb
  refine W.region ?_
  refine WL.yield rfl rfl rfl (Yield.move rfl rfl) ?_
  refine WL.yield rfl rfl rfl (Yield.move rfl rfl) ?_
  refine WL.yield rfl rfl rfl (Yield.nilCheck rfl rfl) ?_
  refine WL.yield rfl rfl rfl (Yield.fieldAt (k := 1) rfl rfl Try.runUnderlying138 rfl Try.sizeOf4 rfl) ?_
  refine WL.eff _ rfl rfl (Eff.storeCell (cs := [x, y]) (cs' := [x, .bool true]) rfl rfl rfl Try.sizeOf4 rfl hb rfl rfl) ?_
  rintro _ w1 ⟨ho_w1, hb_new⟩
  replace hb := hb_new
  replace hO := hO.trans ho_w1 (by intro i hi1 hi2; first | exact hi2 | (exfalso; omega) | (left; exact hi2) | (right; exact hi2) | (right; left; exact hi2))
  refine WL.yield rfl rfl rfl (Yield.nilCheck rfl rfl) ?_
  refine WL.yield rfl rfl rfl (Yield.fieldAt (k := 0) rfl rfl Try.runUnderlying138 rfl Try.sizeOf33 rfl) ?_
  refine WL.eff _ rfl rfl (Eff.storeCell (cs := [x, .bool true]) (cs' := [.slice (none) (0) (0), .bool true]) rfl rfl rfl Try.sizeOf33 rfl hb rfl rfl) ?_
  rintro _ w2 ⟨ho_w2, hb_new⟩
  replace hb := hb_new
  replace hO := hO.trans ho_w2 (by intro i hi1 hi2; first | exact hi2 | (exfalso; omega) | (left; exact hi2) | (right; exact hi2) | (right; left; exact hi2))
  refine WL.fin ?_
  refine Nm.post Try.results119 rfl ?_
  exact ⟨hO, rfl, hb⟩

theorem fnum_bad (w : World) (b : Nat) (A : Option Addr) (l : List UInt8) (hb : w.heap[b]? = some (.cells #[.slice none 0 0, .bool true] 138 (0, 0))) (most : Int) :
    Fc Try.prog 77 #[.pointer (some ⟨b, 0, none⟩), .int .u64 (most)] w (fun v w' => Only (fun k => k = b) w w' ∧ v = .int .u64 0 ∧ w'.heap[b]? = some (.cells #[.slice none 0 0, .bool true] 138 (0, 0))) := by
  refine Fc.enter (args := [.pointer (some ⟨b, 0, none⟩), .int .u64 (most)]) Try.func77 rfl Try.ntmps77 rfl ?_
  intro K_
  have hO : Only (fun k => k = b) w w := Only.refl _ _
  have hlt_b := blk_lt hb
  refine W.seq ?_
  refine W.region ?_
  refine WL.yield rfl rfl rfl (Yield.assign rfl rfl) ?_
  refine WL.fin ?_
  refine Nm.code ?_
  refine W.seq ?_
  refine W.region ?_
  refine WL.yield rfl rfl rfl (Yield.move rfl rfl) ?_
  refine WL.yield rfl rfl rfl (Yield.nilCheck rfl rfl) ?_
  refine WL.yield rfl rfl rfl (Yield.fieldAt (k := 0) rfl rfl Try.runUnderlying138 rfl Try.sizeOf33 rfl) ?_
  refine WL.yield rfl rfl rfl (Yield.load (v := .slice (none) (0) (0)) rfl rfl Try.isAgg33 (cell_get hb rfl)) ?_
  refine WL.eff _ rfl rfl (Eff.fn rfl rfl Try.call118 (by rintro _ rfl; exact Fc.valE (rget_any _ none 0 [] (Rd.nil _ _ _)) rfl)) ?_
  have hlt_b_w : b < w.heap.size := blk_lt hb
  have hz_w := hO.size
  rintro _ w1 ⟨ho_w1, rfl⟩
  replace hb := ho_w1.get hb
  replace hO := hO.ext ho_w1
  refine WL.yield rfl rfl rfl (Yield.move rfl rfl) ?_
  refine WL.yield rfl rfl rfl (Yield.extract (v := .int .u64 (0)) rfl rfl rfl) ?_
  refine WL.yield rfl rfl rfl (Yield.extract (v := .int .i64 (0)) rfl rfl rfl) ?_
  refine WL.yield rfl rfl rfl (Yield.assign rfl rfl) ?_
  refine WL.yield rfl rfl rfl (Yield.assign rfl rfl) ?_
  refine WL.fin ?_
  refine Nm.code ?_
  refine W.seq ?_
  refine W.seq ?_
  refine W.region ?_
  refine WL.yield rfl rfl rfl (Yield.move rfl rfl) ?_
  refine WL.yield rfl rfl rfl (Yield.nilCheck rfl rfl) ?_
  refine WL.yield rfl rfl rfl (Yield.fieldAt (k := 1) rfl rfl Try.runUnderlying138 rfl Try.sizeOf4 rfl) ?_
  refine WL.yield rfl rfl rfl (Yield.load (v := .bool true) rfl rfl Try.isAgg4 (cell_get hb rfl)) ?_
  refine WL.yield rfl rfl rfl (Yield.move rfl rfl) ?_
  refine WL.skip_g rfl rfl rfl ?_
  refine WL.skip_g rfl rfl rfl ?_
  refine WL.yield rfl rfl rfl (Yield.pick_t rfl rfl rfl) ?_
  refine WL.yield rfl rfl rfl (Yield.move rfl rfl) ?_
  refine WL.skip_g rfl rfl rfl ?_
  refine WL.skip_g rfl rfl rfl ?_
  refine WL.skip_g rfl rfl rfl ?_
  refine WL.yield rfl rfl rfl (Yield.pick_t rfl rfl rfl) ?_
  refine WL.fin ?_
  refine Nm.code ?_
  refine W.cond_true rfl ?_
  refine W.seq ?_
  refine W.region ?_
  refine WL.yield rfl rfl rfl (Yield.move rfl rfl) ?_
  refine WL.eff _ rfl rfl (Eff.fn rfl rfl Try.call119 (by rintro _ rfl; exact ffail _ b _ _ hb)) ?_
  have hlt_b_w1 : b < w1.heap.size := blk_lt hb
  have hz_w1 := hO.size
  rintro _ w2 ⟨ho_w2, rfl, hb_new⟩
  replace hb := hb_new
  replace hO := hO.trans ho_w2 (by intro i hi1 hi2; first | exact hi2 | (exfalso; omega) | (left; exact hi2) | (right; exact hi2) | (right; left; exact hi2))
  refine WL.fin ?_
  refine Nm.code ?_
  refine W.seq ?_
  refine W.region ?_
  refine WL.yield rfl rfl rfl (Yield.assign rfl rfl) ?_
  refine WL.fin ?_
  refine Nm.code ?_
  refine W.ret_post (fun _ _ h => h) Try.results77 rfl ?_
  exact ⟨hO, rfl, hb⟩

theorem fnum_ok (w : World) (b : Nat) (A : Option Addr) (l : List UInt8) (Ar : Option Addr) (cr : Nat) (k : Nat) (hb : w.heap[b]? = some (.cells #[.slice Ar (l.drop k).length cr, .bool false] 138 (0, 0))) (hR : RdP A l Ar cr (some k)) (hr : Rd encB w A l) (most : Nat) :
    Fc Try.prog 77 #[.pointer (some ⟨b, 0, none⟩), .int .u64 ((most : Int))] w (fun v w' => Only (fun k => k = b) w w' ∧ v = .int .u64 (numV l most (some k) : Int) ∧ ∃ A' c', w'.heap[b]? = some (.cells #[rdA A' c' l (numS l most (some k)), rdF (numS l most (some k))] 138 (0, 0)) ∧ RdP A l A' c' (numS l most (some k))) := by
  refine Fc.enter (args := [.pointer (some ⟨b, 0, none⟩), .int .u64 ((most : Int))]) Try.func77 rfl Try.ntmps77 rfl ?_
  intro K_
  have hO : Only (fun k => k = b) w w := Only.refl _ _
  have hlt_b := blk_lt hb
  refine W.seq ?_
  refine W.region ?_
  refine WL.yield rfl rfl rfl (Yield.assign rfl rfl) ?_
  refine WL.fin ?_
  refine Nm.code ?_
  refine W.seq ?_
  refine W.region ?_
  refine WL.yield rfl rfl rfl (Yield.move rfl rfl) ?_
  refine WL.yield rfl rfl rfl (Yield.nilCheck rfl rfl) ?_
  refine WL.yield rfl rfl rfl (Yield.fieldAt (k := 0) rfl rfl Try.runUnderlying138 rfl Try.sizeOf33 rfl) ?_
  refine WL.yield rfl rfl rfl (Yield.load (v := .slice (Ar) ((l.drop k).length) (cr)) rfl rfl Try.isAgg33 (cell_get hb rfl)) ?_
  refine WL.eff _ rfl rfl (Eff.fn rfl rfl Try.call118 (by rintro _ rfl; exact rget_any _ Ar cr (l.drop k) (hR.1 _ hr))) ?_
  have hlt_b_w : b < w.heap.size := blk_lt hb
  have hz_w := hO.size
  rintro _ w1 ⟨ho_w1, rfl⟩
  replace hb := ho_w1.get hb
  replace hO := hO.ext ho_w1
  refine WL.yield rfl rfl rfl (Yield.move rfl rfl) ?_
  refine WL.yield rfl rfl rfl (Yield.extract (v := .int .u64 ((getN (l.drop k) : Int))) rfl rfl rfl) ?_
  refine WL.yield rfl rfl rfl (Yield.extract (v := .int .i64 ((getK (l.drop k) : Int))) rfl rfl rfl) ?_
  refine WL.yield rfl rfl rfl (Yield.assign rfl rfl) ?_
  refine WL.yield rfl rfl rfl (Yield.assign rfl rfl) ?_
  refine WL.fin ?_
  refine Nm.code ?_
  refine W.seq ?_
  refine W.seq ?_
  refine W.region ?_
  refine WL.yield rfl rfl rfl (Yield.move rfl rfl) ?_
  refine WL.yield rfl rfl rfl (Yield.nilCheck rfl rfl) ?_
  refine WL.yield rfl rfl rfl (Yield.fieldAt (k := 1) rfl rfl Try.runUnderlying138 rfl Try.sizeOf4 rfl) ?_
  refine WL.yield rfl rfl rfl (Yield.load (v := .bool false) rfl rfl Try.isAgg4 (cell_get hb rfl)) ?_
  refine WL.yield rfl rfl rfl (Yield.move rfl rfl) ?_
  refine WL.yield_g rfl rfl rfl (Yield.move rfl rfl) ?_
  by_cases hk0 : ((getK (l.drop k) : Nat) : Int) = 0
  · refine WL.yield_g rfl rfl rfl (Yield.ar rfl rfl rfl rfl (bool_true (hk0))) ?_
    refine WL.yield rfl rfl rfl (Yield.pick_f rfl rfl rfl) ?_
    refine WL.yield rfl rfl rfl (Yield.move rfl rfl) ?_
    refine WL.skip_g rfl rfl rfl ?_
    refine WL.skip_g rfl rfl rfl ?_
    refine WL.skip_g rfl rfl rfl ?_
    refine WL.yield rfl rfl rfl (Yield.pick_t rfl rfl rfl) ?_
    refine WL.fin ?_
    refine Nm.code ?_
    refine W.cond_true rfl ?_
    refine W.seq ?_
    refine W.region ?_
    refine WL.yield rfl rfl rfl (Yield.move rfl rfl) ?_
    refine WL.eff _ rfl rfl (Eff.fn rfl rfl Try.call119 (by rintro _ rfl; exact ffail _ b _ _ hb)) ?_
    have hlt_b_w1 : b < w1.heap.size := blk_lt hb
    have hz_w1 := hO.size
    rintro _ w2 ⟨ho_w2, rfl, hb_new⟩
    replace hb := hb_new
    replace hO := hO.trans ho_w2 (by intro i hi1 hi2; first | exact hi2 | (exfalso; omega) | (left; exact hi2) | (right; exact hi2) | (right; left; exact hi2))
    refine WL.fin ?_
    refine Nm.code ?_
    refine W.seq ?_
    refine W.region ?_
    refine WL.yield rfl rfl rfl (Yield.assign rfl rfl) ?_
    refine WL.fin ?_
    refine Nm.code ?_
    refine W.ret_post (fun _ _ h => h) Try.results77 rfl ?_
    have hbad := numS_bad (most := most) (l := l) (k := k) (by first | exact .inl (by omega) | exact .inr (by first | assumption | omega))
    rw [hbad.1, hbad.2]
    exact ⟨hO, rfl, none, 0, hb, RdP.none A l⟩
  · refine WL.yield_g rfl rfl rfl (Yield.ar rfl rfl rfl rfl (bool_false (hk0))) ?_
    refine WL.yield rfl rfl rfl (Yield.pick_f rfl rfl rfl) ?_
    refine WL.yield rfl rfl rfl (Yield.move rfl rfl) ?_
    refine WL.yield_g rfl rfl rfl (Yield.move rfl rfl) ?_
    refine WL.yield_g rfl rfl rfl (Yield.move rfl rfl) ?_
    by_cases hbig : ((getN (l.drop k) : Nat) : Int) > (most : Int)
    · refine WL.yield_g rfl rfl rfl (Yield.ar rfl rfl rfl rfl (bool_true (hbig))) ?_
      refine WL.yield rfl rfl rfl (Yield.pick_f rfl rfl rfl) ?_
      refine WL.fin ?_
      refine Nm.code ?_
      refine W.cond_true rfl ?_
      refine W.seq ?_
      refine W.region ?_
      refine WL.yield rfl rfl rfl (Yield.move rfl rfl) ?_
      refine WL.eff _ rfl rfl (Eff.fn rfl rfl Try.call119 (by rintro _ rfl; exact ffail _ b _ _ hb)) ?_
      have hlt_b_w1 : b < w1.heap.size := blk_lt hb
      have hz_w1 := hO.size
      rintro _ w3 ⟨ho_w3, rfl, hb_new⟩
      replace hb := hb_new
      replace hO := hO.trans ho_w3 (by intro i hi1 hi2; first | exact hi2 | (exfalso; omega) | (left; exact hi2) | (right; exact hi2) | (right; left; exact hi2))
      refine WL.fin ?_
      refine Nm.code ?_
      refine W.seq ?_
      refine W.region ?_
      refine WL.yield rfl rfl rfl (Yield.assign rfl rfl) ?_
      refine WL.fin ?_
      refine Nm.code ?_
      refine W.ret_post (fun _ _ h => h) Try.results77 rfl ?_
      have hbad := numS_bad (most := most) (l := l) (k := k) (by first | exact .inl (by omega) | exact .inr (by first | assumption | omega))
      rw [hbad.1, hbad.2]
      exact ⟨hO, rfl, none, 0, hb, RdP.none A l⟩
    · refine WL.yield_g rfl rfl rfl (Yield.ar rfl rfl rfl rfl (bool_false (hbig))) ?_
      refine WL.yield rfl rfl rfl (Yield.pick_f rfl rfl rfl) ?_
      refine WL.fin ?_
      refine Nm.code ?_
      refine W.cond_false rfl ?_
      refine W.skipN ?_
      refine Nm.code ?_
      refine W.seq ?_
      refine W.region ?_
      refine WL.yield rfl rfl rfl (Yield.move rfl rfl) ?_
      refine WL.yield rfl rfl rfl (Yield.move rfl rfl) ?_
      refine WL.yield rfl rfl rfl (Yield.nilCheck rfl rfl) ?_
      refine WL.yield rfl rfl rfl (Yield.fieldAt (k := 0) rfl rfl Try.runUnderlying138 rfl Try.sizeOf33 rfl) ?_
      refine WL.yield rfl rfl rfl (Yield.load (v := .slice (Ar) ((l.drop k).length) (cr)) rfl rfl Try.isAgg33 (cell_get hb rfl)) ?_
      refine WL.yield rfl rfl rfl (Yield.move rfl rfl) ?_
      refine WL.yield rfl rfl rfl ((Yield.slice rfl rfl rfl rfl Try.runUnderlying33 Try.sizeOf5 rfl rfl (by omega) (by have := getK_le (l.drop k); omega) (by have h : (l.drop k).length ≤ cr := hR.2; omega)).cast (v' := .slice ((if cr = getK (l.drop k) then Ar else Ar.map (·.add (getK (l.drop k) * 1)))) ((l.drop (k + getK (l.drop k))).length) (cr - getK (l.drop k))) (by rw [show (l.drop (k + getK (l.drop k))).length = (l.drop k).length - getK (l.drop k) by rw [← List.drop_drop, List.length_drop]]; rfl)) ?_
      refine WL.yield rfl rfl rfl (Yield.nilCheck rfl rfl) ?_
      refine WL.yield rfl rfl rfl (Yield.fieldAt (k := 0) rfl rfl Try.runUnderlying138 rfl Try.sizeOf33 rfl) ?_
      refine WL.eff _ rfl rfl (Eff.storeCell (cs := [.slice (Ar) ((l.drop k).length) (cr), .bool false]) (cs' := [.slice ((if cr = getK (l.drop k) then Ar else Ar.map (·.add (getK (l.drop k) * 1)))) ((l.drop (k + getK (l.drop k))).length) (cr - getK (l.drop k)), .bool false]) rfl rfl rfl Try.sizeOf33 rfl hb rfl rfl) ?_
      rintro _ w4 ⟨ho_w4, hb_new⟩
      replace hb := hb_new
      replace hO := hO.trans ho_w4 (by intro i hi1 hi2; first | exact hi2 | (exfalso; omega) | (left; exact hi2) | (right; exact hi2) | (right; left; exact hi2))
      refine WL.fin ?_
      refine Nm.code ?_
      refine W.seq ?_
      refine W.region ?_
      refine WL.yield rfl rfl rfl (Yield.move rfl rfl) ?_
      refine WL.yield rfl rfl rfl (Yield.assign rfl rfl) ?_
      refine WL.fin ?_
      refine Nm.code ?_
      refine W.ret_post (fun _ _ h => h) Try.results77 rfl ?_
      have hgood := numS_good (most := most) (l := l) (k := k) (by first | (rintro (h | h) <;> first | omega | exact absurd h (by assumption) | exact h (by assumption)))
      rw [hgood.1, hgood.2]
      exact ⟨hO, rfl, _, _, hb, hR.step (getK_le _)⟩

theorem fnum_any (w : World) (b : Nat) (A : Option Addr) (l : List UInt8) (Ar : Option Addr) (cr : Nat) (st : Option Nat) (hb : w.heap[b]? = some (.cells #[rdA Ar cr l st, rdF st] 138 (0, 0))) (hR : RdP A l Ar cr st) (hr : Rd encB w A l) (most : Nat) :
    Fc Try.prog 77 #[.pointer (some ⟨b, 0, none⟩), .int .u64 (most : Int)] w (fun v w' => Only (fun k => k = b) w w' ∧ v = .int .u64 (numV l most st : Int) ∧ ∃ A' c', w'.heap[b]? = some (.cells #[rdA A' c' l (numS l most st), rdF (numS l most st)] 138 (0, 0)) ∧ RdP A l A' c' (numS l most st)) := by
  cases st with
  | none => exact (fnum_bad w b A l hb most).mono fun v w' ⟨h1, h2, h3⟩ => ⟨h1, h2, none, 0, h3, RdP.none A l⟩
  | some k => exact fnum_ok w b A l Ar cr k hb hR hr most

theorem fend_bad (w : World) (b : Nat) (A : Option Addr) (l : List UInt8) (hb : w.heap[b]? = some (.cells #[.slice none 0 0, .bool true] 138 (0, 0))) :
    Fc Try.prog 78 #[.pointer (some ⟨b, 0, none⟩)] w (fun v w' => Ext w w' ∧ v = .bool false) := by
  refine Fc.enter (args := [.pointer (some ⟨b, 0, none⟩)]) Try.func78 rfl Try.ntmps78 rfl ?_
  intro K_
  have hO : Only (fun _ => False) w w := Only.refl _ _
  have hlt_b := blk_lt hb
  refine W.seq ?_
  refine W.region ?_
  refine WL.yield rfl rfl rfl (Yield.assign rfl rfl) ?_
  refine WL.fin ?_
  refine Nm.code ?_
  refine W.seq ?_
  refine W.region ?_
  refine WL.yield rfl rfl rfl (Yield.move rfl rfl) ?_
  refine WL.yield rfl rfl rfl (Yield.nilCheck rfl rfl) ?_
  refine WL.yield rfl rfl rfl (Yield.fieldAt (k := 1) rfl rfl Try.runUnderlying138 rfl Try.sizeOf4 rfl) ?_
  refine WL.yield rfl rfl rfl (Yield.load (v := .bool true) rfl rfl Try.isAgg4 (cell_get hb rfl)) ?_
  refine WL.yield rfl rfl rfl (Yield.not rfl rfl) ?_
  refine WL.yield rfl rfl rfl (Yield.move rfl rfl) ?_
  refine WL.skip_g rfl rfl rfl ?_
  refine WL.skip_g rfl rfl rfl ?_
  refine WL.skip_g rfl rfl rfl ?_
  refine WL.skip_g rfl rfl rfl ?_
  refine WL.skip_g rfl rfl rfl ?_
  refine WL.skip_g rfl rfl rfl ?_
  refine WL.yield rfl rfl rfl (Yield.pick_f rfl rfl rfl) ?_
  refine WL.yield rfl rfl rfl (Yield.assign rfl rfl) ?_
  refine WL.fin ?_
  refine Nm.code ?_
  refine W.ret_post (fun _ _ h => h) Try.results78 rfl ?_
  exact ⟨hO, rfl⟩

theorem fend_ok (w : World) (b : Nat) (l : List UInt8) (Ar : Option Addr) (cr : Nat) (k : Nat) (hb : w.heap[b]? = some (.cells #[.slice Ar (l.drop k).length cr, .bool false] 138 (0, 0))) :
    Fc Try.prog 78 #[.pointer (some ⟨b, 0, none⟩)] w (fun v w' => Ext w w' ∧ v = .bool (decide ((l.drop k).length = 0))) := by
  refine Fc.enter (args := [.pointer (some ⟨b, 0, none⟩)]) Try.func78 rfl Try.ntmps78 rfl ?_
  intro K_
  have hO : Only (fun _ => False) w w := Only.refl _ _
  have hlt_b := blk_lt hb
  refine W.seq ?_
  refine W.region ?_
  refine WL.yield rfl rfl rfl (Yield.assign rfl rfl) ?_
  refine WL.fin ?_
  refine Nm.code ?_
  refine W.seq ?_
  refine W.region ?_
  refine WL.yield rfl rfl rfl (Yield.move rfl rfl) ?_
  refine WL.yield rfl rfl rfl (Yield.nilCheck rfl rfl) ?_
  refine WL.yield rfl rfl rfl (Yield.fieldAt (k := 1) rfl rfl Try.runUnderlying138 rfl Try.sizeOf4 rfl) ?_
  refine WL.yield rfl rfl rfl (Yield.load (v := .bool false) rfl rfl Try.isAgg4 (cell_get hb rfl)) ?_
  refine WL.yield rfl rfl rfl (Yield.not rfl rfl) ?_
  refine WL.yield rfl rfl rfl (Yield.move rfl rfl) ?_
  refine WL.yield_g rfl rfl rfl (Yield.move rfl rfl) ?_
  refine WL.yield_g rfl rfl rfl (Yield.nilCheck rfl rfl) ?_
  refine WL.yield_g rfl rfl rfl (Yield.fieldAt (k := 0) rfl rfl Try.runUnderlying138 rfl Try.sizeOf33 rfl) ?_
  refine WL.yield_g rfl rfl rfl (Yield.load (v := .slice (Ar) ((l.drop k).length) (cr)) rfl rfl Try.isAgg33 (cell_get hb rfl)) ?_
  refine WL.yield_g rfl rfl rfl (Yield.lenSlice rfl rfl Try.runUnderlying33) ?_
  refine WL.yield_g rfl rfl rfl (Yield.ar (v' := .bool (decide ((l.drop k).length = 0))) rfl rfl rfl rfl (bool_dec (by omega))) ?_
  refine WL.yield rfl rfl rfl (Yield.pick_t rfl rfl rfl) ?_
  refine WL.yield rfl rfl rfl (Yield.assign rfl rfl) ?_
  refine WL.fin ?_
  refine Nm.code ?_
  refine W.ret_post (fun _ _ h => h) Try.results78 rfl ?_
  exact ⟨hO, rfl⟩

theorem fend_any (w : World) (b : Nat) (l : List UInt8) (Ar : Option Addr) (cr : Nat) (st : Option Nat) (hb : w.heap[b]? = some (.cells #[rdA Ar cr l st, rdF st] 138 (0, 0))) :
    Fc Try.prog 78 #[.pointer (some ⟨b, 0, none⟩)] w (fun v w' => Ext w w' ∧ v = .bool (endO l st)) := by
  cases st with
  | none => exact fend_bad w b none l hb
  | some k => exact fend_ok w b l Ar cr k hb

theorem rnum_bv (w : World) (b : Nat) (A : Option Addr) (l : List UInt8) (Ar : Option Addr) (cr : Nat) (st : Option Nat) (hb : w.heap[b]? = some (.cells #[rdA Ar cr l st, rdF st] 183 (0, 0))) (hR : RdP A l Ar cr st) (hr : Rd encB w A l) (most : Nat) :
    Fc Try.prog 73 #[.pointer (some ⟨b, 0, none⟩), .int .u64 (most : Int)] w (fun v w' => Only (fun k => k = b) w w' ∧ v = .int .u64 ((BitVec.ofNat 64 (numV l most st)).toNat : Int) ∧ ∃ A' c', w'.heap[b]? = some (.cells #[rdA A' c' l (numS l most st), rdF (numS l most st)] 183 (0, 0)) ∧ RdP A l A' c' (numS l most st)) := by
  rw [← nat_bv (numV_lt l most st)]; exact rnum_any w b A l Ar cr st hb hR hr most

theorem fnum_bv (w : World) (b : Nat) (A : Option Addr) (l : List UInt8) (Ar : Option Addr) (cr : Nat) (st : Option Nat) (hb : w.heap[b]? = some (.cells #[rdA Ar cr l st, rdF st] 138 (0, 0))) (hR : RdP A l Ar cr st) (hr : Rd encB w A l) (most : Nat) :
    Fc Try.prog 77 #[.pointer (some ⟨b, 0, none⟩), .int .u64 (most : Int)] w (fun v w' => Only (fun k => k = b) w w' ∧ v = .int .u64 ((BitVec.ofNat 64 (numV l most st)).toNat : Int) ∧ ∃ A' c', w'.heap[b]? = some (.cells #[rdA A' c' l (numS l most st), rdF (numS l most st)] 138 (0, 0)) ∧ RdP A l A' c' (numS l most st)) := by
  rw [← nat_bv (numV_lt l most st)]; exact fnum_any w b A l Ar cr st hb hR hr most

theorem rset_bv (w : World) (b : Nat) (A : Option Addr) (l : List UInt8) (Ar : Option Addr) (cr : Nat) (st : Option Nat) (hb : w.heap[b]? = some (.cells #[rdA Ar cr l st, rdF st] 183 (0, 0))) (hR : RdP A l Ar cr st) (hr : Rd encB w A l) (m : BitVec 64) :
    Fc Try.prog 74 #[.pointer (some ⟨b, 0, none⟩), .int .u64 (m.toNat : Int)] w (fun v w' => Only (fun k => k = b) w w' ∧ v = .int .u64 ((BitVec.ofNat 64 (setV l m st)).toNat : Int) ∧ ∃ A' c', w'.heap[b]? = some (.cells #[rdA A' c' l (setS l m st), rdF (setS l m st)] 183 (0, 0)) ∧ RdP A l A' c' (setS l m st)) := by
  rw [← nat_bv (setV_lt l m st)]; exact rset_any w b A l Ar cr st hb hR hr m

theorem newreader (w : World) (A : Option Addr) (c : Nat) (l : List UInt8) (hr : Rd encB w A l) (hlen : l.length ≤ 140737488355328) :
    Fc Try.prog 72 #[.slice (A) (l.length) (c)] w (fun v w' => Ext w w' ∧ (fun v_ w_ => ∃ b_ A_ c_, v_ = .pointer (some ⟨b_, 0, none⟩) ∧ w.heap.size ≤ b_ ∧ w_.heap[b_]? = some (.cells #[.slice A_ l.length c_, .bool false] 183 (0, 0)) ∧ l.length ≤ c_ ∧ Nw w.heap.size encB 5 l (.slice A_ l.length c_) w_ ∧ ∀ q, (Value.slice A_ l.length c_).ownBlock = some q → q ≠ b_) v w') := by
  refine Fc.enter (args := [.slice (A) (l.length) (c)]) Try.func72 rfl Try.ntmps72 rfl ?_
  intro K_
  have hO : Only (fun _ => False) w w := Only.refl _ _
  refine W.seq ?_
  refine W.region ?_
  refine WL.yield rfl rfl rfl (Yield.assign rfl rfl) ?_
  refine WL.fin ?_
  refine Nm.code ?_
  refine W.seq ?_
  refine W.region ?_
  refine WL.yield rfl rfl rfl (Yield.move rfl rfl) ?_
  refine WL.eff _ rfl rfl (Eff.fn rfl rfl Try.call63 (by rintro _ rfl; exact bclone _ _ _ _ (hr.ext hO) hlen)) ?_
  have hz_w := hO.size
  rintro _ w1 ⟨ho_w1, ⟨A_4, c_4, rfl, hc_4, hv_4⟩⟩
  replace hO := hO.ext ho_w1
  refine WL.yield rfl rfl rfl (Yield.build (cells := #[.slice (A_4) (l.length) (c_4), .bool false]) rfl rfl (by kernel_rfl)) ?_
  refine WL.eff _ rfl rfl (Eff.box rfl rfl) ?_
  rintro _ w2 ⟨_, b1, rfl, hs_b1, rfl, he_w2⟩
  have hb_b1 : w2.heap[b1]? = some (.cells #[.slice (A_4) (l.length) (c_4), .bool false] 183 (0, 0)) := by rw [he_w2, hs_b1]; exact new_get _ _
  have ho_w2 : Ext w1 w2 := by rw [he_w2]; exact Ext.alloc _ _
  clear he_w2
  have hn_b1 : w.heap.size ≤ b1 := by rw [hs_b1]; exact hO.size
  have hl_hv_4_b1 := Nw.below hv_4 (Nat.le_of_eq hs_b1.symm)
  replace hO := hO.ext ho_w2
  replace hv_4 := hv_4.ext ho_w2
  refine WL.yield rfl rfl rfl (Yield.assign rfl rfl) ?_
  refine WL.fin ?_
  refine Nm.code ?_
  refine W.ret_post (fun _ _ h => h) Try.results72 rfl ?_
  exact ⟨hO, _, _, _, rfl, hn_b1, hb_b1, hc_4, hv_4, fun q hq => by have := hl_hv_4_b1 q hq; omega⟩

theorem newwriter (w : World)  :
    Fc Try.prog 79 #[] w (fun v w' => Ext w w' ∧ (fun v_ w_ => ∃ b_, v_ = .pointer (some ⟨b_, 0, none⟩) ∧ w_.heap[b_]? = some (.cells #[.slice (none) (0) (0)] 187 (0, 0)) ∧ w.heap.size ≤ b_) v w') := by
  refine Fc.enter (args := []) Try.func79 rfl Try.ntmps79 rfl ?_
  intro K_
  have hO : Only (fun _ => False) w w := Only.refl _ _
  refine W.seq ?_
  refine W.region ?_
  refine WL.yield rfl rfl rfl (Yield.assign rfl rfl) ?_
  refine WL.fin ?_
  refine Nm.code ?_
  refine W.seq ?_
  refine W.region ?_
  refine WL.yield rfl rfl rfl (Yield.build (cells := #[.slice (none) (0) (0)]) rfl rfl (by kernel_rfl)) ?_
  refine WL.eff _ rfl rfl (Eff.box rfl rfl) ?_
  rintro _ w1 ⟨_, b1, rfl, hs_b1, rfl, he_w1⟩
  have hb_b1 : w1.heap[b1]? = some (.cells #[.slice (none) (0) (0)] 187 (0, 0)) := by rw [he_w1, hs_b1]; exact new_get _ _
  have ho_w1 : Ext w w1 := by rw [he_w1]; exact Ext.alloc _ _
  clear he_w1
  have hn_b1 : w.heap.size ≤ b1 := by rw [hs_b1]; exact hO.size
  replace hO := hO.ext ho_w1
  refine WL.yield rfl rfl rfl (Yield.assign rfl rfl) ?_
  refine WL.fin ?_
  refine Nm.code ?_
  refine W.ret_post (fun _ _ h => h) Try.results79 rfl ?_
  exact ⟨hO, _, rfl, hb_b1, by omega⟩

theorem wnum_any (w : World) (b : Nat) (A : Option Addr) (c : Nat) (l : List UInt8) (hb : w.heap[b]? = some (.cells #[.slice A l.length c] 187 (0, 0))) (hr : Rd encB w A l) (n : Nat) (h : n < 18446744073709551616) (hlen : l.length ≤ 140737488355000) :
    Fc Try.prog 80 #[.pointer (some ⟨b, 0, none⟩), .int .u64 ((n : Int))] w (fun v w' => Only (fun k => k = b) w w' ∧ v = .tuple #[] ∧ ∃ A' c', w'.heap[b]? = some (.cells #[.slice A' (l ++ lebL n).length c'] 187 (0, 0)) ∧ (l ++ lebL n).length ≤ c' ∧ Nw w.heap.size encB 5 (l ++ lebL n) (.slice A' (l ++ lebL n).length c') w') := by
  refine Fc.enter (args := [.pointer (some ⟨b, 0, none⟩), .int .u64 ((n : Int))]) Try.func80 rfl Try.ntmps80 rfl ?_
  intro K_
  have hO : Only (fun k => k = b) w w := Only.refl _ _
  have hlt_b := blk_lt hb
  refine W.region ?_
  refine WL.yield rfl rfl rfl (Yield.move rfl rfl) ?_
  refine WL.yield rfl rfl rfl (Yield.move rfl rfl) ?_
  refine WL.yield rfl rfl rfl (Yield.nilCheck rfl rfl) ?_
  refine WL.yield rfl rfl rfl (Yield.fieldAt (k := 0) rfl rfl Try.runUnderlying187 rfl Try.sizeOf33 rfl) ?_
  refine WL.yield rfl rfl rfl (Yield.load (v := .slice (A) (l.length) (c)) rfl rfl Try.isAgg33 (cell_get hb rfl)) ?_
  refine WL.yield rfl rfl rfl (Yield.move rfl rfl) ?_
  refine WL.eff _ rfl rfl (Eff.fn rfl rfl Try.call120 (by rintro _ rfl; exact put_any _ _ _ _ hr n h hlen)) ?_
  have hlt_b_w : b < w.heap.size := blk_lt hb
  have hz_w := hO.size
  rintro _ w1 ⟨ho_w1, ⟨A_10, c_10, rfl, hc_10, hv_10⟩⟩
  replace hb := ho_w1.get hb
  replace hO := hO.ext ho_w1
  refine WL.yield rfl rfl rfl (Yield.nilCheck rfl rfl) ?_
  refine WL.yield rfl rfl rfl (Yield.fieldAt (k := 0) rfl rfl Try.runUnderlying187 rfl Try.sizeOf33 rfl) ?_
  refine WL.eff _ rfl rfl (Eff.storeCell (cs := [.slice (A) (l.length) (c)]) (cs' := [.slice (A_10) ((l ++ lebL n).length) (c_10)]) rfl rfl rfl Try.sizeOf33 rfl hb rfl rfl) ?_
  rintro _ w2 ⟨ho_w2, hb_new⟩
  replace hb := hb_new
  replace hO := hO.trans ho_w2 (by intro i hi1 hi2; first | exact hi2 | (exfalso; omega) | (left; exact hi2) | (right; exact hi2) | (right; left; exact hi2))
  replace hv_10 := hv_10.only ho_w2 (fun q hq h => absurd (show q = b from h) (by have := hv_10.2 q hq; omega))
  refine WL.fin ?_
  refine Nm.post Try.results80 rfl ?_
  exact ⟨hO, rfl, _, _, hb, hc_10, hv_10⟩

theorem vnum_any (w : World) (b : Nat) (A : Option Addr) (c : Nat) (l : List UInt8) (hb : w.heap[b]? = some (.cells #[.slice A l.length c] 151 (0, 0))) (hr : Rd encB w A l) (n : Nat) (h : n < 18446744073709551616) (hlen : l.length ≤ 140737488355000) :
    Fc Try.prog 87 #[.pointer (some ⟨b, 0, none⟩), .int .u64 ((n : Int))] w (fun v w' => Only (fun k => k = b) w w' ∧ v = .tuple #[] ∧ ∃ A' c', w'.heap[b]? = some (.cells #[.slice A' (l ++ lebL n).length c'] 151 (0, 0)) ∧ (l ++ lebL n).length ≤ c' ∧ Nw w.heap.size encB 5 (l ++ lebL n) (.slice A' (l ++ lebL n).length c') w') := by
  refine Fc.enter (args := [.pointer (some ⟨b, 0, none⟩), .int .u64 ((n : Int))]) Try.func87 rfl Try.ntmps87 rfl ?_
  intro K_
  have hO : Only (fun k => k = b) w w := Only.refl _ _
  have hlt_b := blk_lt hb
  refine W.region ?_
  refine WL.yield rfl rfl rfl (Yield.move rfl rfl) ?_
  refine WL.yield rfl rfl rfl (Yield.move rfl rfl) ?_
  refine WL.yield rfl rfl rfl (Yield.nilCheck rfl rfl) ?_
  refine WL.yield rfl rfl rfl (Yield.fieldAt (k := 0) rfl rfl Try.runUnderlying151 rfl Try.sizeOf33 rfl) ?_
  refine WL.yield rfl rfl rfl (Yield.load (v := .slice (A) (l.length) (c)) rfl rfl Try.isAgg33 (cell_get hb rfl)) ?_
  refine WL.yield rfl rfl rfl (Yield.move rfl rfl) ?_
  refine WL.eff _ rfl rfl (Eff.fn rfl rfl Try.call123 (by rintro _ rfl; exact rput_any _ _ _ _ hr n h hlen)) ?_
  have hlt_b_w : b < w.heap.size := blk_lt hb
  have hz_w := hO.size
  rintro _ w1 ⟨ho_w1, ⟨A_10, c_10, rfl, hc_10, hv_10⟩⟩
  replace hb := ho_w1.get hb
  replace hO := hO.ext ho_w1
  refine WL.yield rfl rfl rfl (Yield.nilCheck rfl rfl) ?_
  refine WL.yield rfl rfl rfl (Yield.fieldAt (k := 0) rfl rfl Try.runUnderlying151 rfl Try.sizeOf33 rfl) ?_
  refine WL.eff _ rfl rfl (Eff.storeCell (cs := [.slice (A) (l.length) (c)]) (cs' := [.slice (A_10) ((l ++ lebL n).length) (c_10)]) rfl rfl rfl Try.sizeOf33 rfl hb rfl rfl) ?_
  rintro _ w2 ⟨ho_w2, hb_new⟩
  replace hb := hb_new
  replace hO := hO.trans ho_w2 (by intro i hi1 hi2; first | exact hi2 | (exfalso; omega) | (left; exact hi2) | (right; exact hi2) | (right; left; exact hi2))
  replace hv_10 := hv_10.only ho_w2 (fun q hq h => absurd (show q = b from h) (by have := hv_10.2 q hq; omega))
  refine WL.fin ?_
  refine Nm.post Try.results87 rfl ?_
  exact ⟨hO, rfl, _, _, hb, hc_10, hv_10⟩

theorem wset_any (w : World) (b : Nat) (A : Option Addr) (c : Nat) (l : List UInt8) (hb : w.heap[b]? = some (.cells #[.slice A l.length c] 187 (0, 0))) (hr : Rd encB w A l) (n : Nat) (h : n < 18446744073709551616) (hlen : l.length ≤ 140737488355000) :
    Fc Try.prog 81 #[.pointer (some ⟨b, 0, none⟩), .int .u64 ((n : Int))] w (fun v w' => Only (fun k => k = b) w w' ∧ v = .tuple #[] ∧ ∃ A' c', w'.heap[b]? = some (.cells #[.slice A' (l ++ lebL n).length c'] 187 (0, 0)) ∧ (l ++ lebL n).length ≤ c' ∧ Nw w.heap.size encB 5 (l ++ lebL n) (.slice A' (l ++ lebL n).length c') w') := by
  refine Fc.enter (args := [.pointer (some ⟨b, 0, none⟩), .int .u64 ((n : Int))]) Try.func81 rfl Try.ntmps81 rfl ?_
  intro K_
  have hO : Only (fun k => k = b) w w := Only.refl _ _
  have hlt_b := blk_lt hb
  refine W.region ?_
  refine WL.yield rfl rfl rfl (Yield.move rfl rfl) ?_
  refine WL.yield rfl rfl rfl (Yield.move rfl rfl) ?_
  refine WL.eff _ rfl rfl (Eff.fn rfl rfl Try.call80 (by rintro _ rfl; exact wnum_any _ b _ _ _ hb hr n h hlen)) ?_
  have hlt_b_w : b < w.heap.size := blk_lt hb
  have hz_w := hO.size
  rintro _ w1 ⟨ho_w1, rfl, A_r, c_r, hb_new, hc_r, hv_r⟩
  replace hb := hb_new
  replace hO := hO.trans ho_w1 (by intro i hi1 hi2; first | exact hi2 | (exfalso; omega) | (left; exact hi2) | (right; exact hi2) | (right; left; exact hi2))
  refine WL.fin ?_
  refine Nm.post Try.results81 rfl ?_
  exact ⟨hO, rfl, _, _, hb, hc_r, hv_r⟩

theorem wdone_any (w : World) (b : Nat) (A : Option Addr) (c : Nat) (l : List UInt8) (hb : w.heap[b]? = some (.cells #[.slice A l.length c] 187 (0, 0))) (hr : Rd encB w A l) (hlen : l.length ≤ 140737488355328) :
    Fc Try.prog 82 #[.pointer (some ⟨b, 0, none⟩)] w (fun v w' => Ext w w' ∧ NwSl w.heap.size encB 5 l v w') := by
  refine Fc.enter (args := [.pointer (some ⟨b, 0, none⟩)]) Try.func82 rfl Try.ntmps82 rfl ?_
  intro K_
  have hO : Only (fun _ => False) w w := Only.refl _ _
  have hlt_b := blk_lt hb
  refine W.seq ?_
  refine W.region ?_
  refine WL.yield rfl rfl rfl (Yield.assign rfl rfl) ?_
  refine WL.fin ?_
  refine Nm.code ?_
  refine W.seq ?_
  refine W.region ?_
  refine WL.yield rfl rfl rfl (Yield.move rfl rfl) ?_
  refine WL.yield rfl rfl rfl (Yield.nilCheck rfl rfl) ?_
  refine WL.yield rfl rfl rfl (Yield.fieldAt (k := 0) rfl rfl Try.runUnderlying187 rfl Try.sizeOf33 rfl) ?_
  refine WL.yield rfl rfl rfl (Yield.load (v := .slice (A) (l.length) (c)) rfl rfl Try.isAgg33 (cell_get hb rfl)) ?_
  refine WL.eff _ rfl rfl (Eff.fn rfl rfl Try.call63 (by rintro _ rfl; exact bclone _ _ _ _ (hr.ext hO) hlen)) ?_
  have hlt_b_w : b < w.heap.size := blk_lt hb
  have hz_w := hO.size
  rintro _ w1 ⟨ho_w1, ⟨A_7, c_7, rfl, hc_7, hv_7⟩⟩
  replace hb := ho_w1.get hb
  replace hO := hO.ext ho_w1
  refine WL.yield rfl rfl rfl (Yield.assign rfl rfl) ?_
  refine WL.fin ?_
  refine Nm.code ?_
  refine W.ret_post (fun _ _ h => h) Try.results82 rfl ?_
  exact ⟨hO, _, _, rfl, hc_7, hv_7⟩

end Go.Proofs.Ytpnoddfjklcahaa
