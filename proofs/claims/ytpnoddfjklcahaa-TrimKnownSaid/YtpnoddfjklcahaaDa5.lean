import Derived.Test.YtpnoddfjklcahaaDa4
set_option linter.all false
namespace Go.Shoal
open Go Go.Lv

/-! ### less, but: the law -/
theorem lessT_good {l : List En} (h : good l = true) (to : BitVec 64) : lessT l to = l.map (lessE to) := by unfold lessT; rw [if_pos h]
theorem butT_good {l : List En} (h : good l = true) (to : BitVec 64) (d : Int) : butT l to d = l.map (lessE (to &&& ~~~ ofL [d])) := by unfold butT; exact lessT_good h _
theorem bv_ext {a b : BitVec 64} (h : ∀ i, i < 64 → a.getLsbD i = b.getLsbD i) : a = b := BitVec.eq_of_getLsbD_eq h
theorem less_and (x : En) (to : BitVec 64) : (lessE to x).t &&& to = 0 := by
  refine bv_ext fun i hi => ?_
  simp only [lessE, BitVec.getLsbD_and, BitVec.getLsbD_not, hi, decide_true, Bool.true_and]
  cases x.t.getLsbD i <;> cases to.getLsbD i <;> simp
theorem but_and (x : En) (to o : BitVec 64) : ((lessE (to &&& ~~~ o) x).t &&& to) &&& ~~~ o = 0 := by
  refine bv_ext fun i hi => ?_
  simp only [lessE, BitVec.getLsbD_and, BitVec.getLsbD_not, hi, decide_true, Bool.true_and]
  cases x.t.getLsbD i <;> cases to.getLsbD i <;> cases o.getLsbD i <;> simp
theorem of_bit {d : Int} (h0 : 0 ≤ d) (h1 : d < 64) : (ofL [d]).getLsbD d.toNat = true := by
  have : d.toNat < 64 := by omega
  simp only [ofL, List.foldl_cons, List.foldl_nil, ofS, if_pos (And.intro h0 h1)]
  rw [show (0 : BitVec 64) ||| BitVec.ofNat 64 (2 ^ d.toNat) = BitVec.ofNat 64 (2 ^ d.toNat) from BitVec.zero_or, BitVec.getLsbD_ofNat, Nat.testBit_two_pow_self]
  simpa using this
theorem but_has (x : En) (to : BitVec 64) {d : Int} (h0 : 0 ≤ d) (h1 : d < 64) : hasS (lessE (to &&& ~~~ ofL [d]) x).t d = hasS x.t d := by
  have hd : d.toNat < 64 := by omega
  simp only [hasS, lessE, BitVec.getLsbD_and, BitVec.getLsbD_not, hd, decide_true, Bool.true_and, of_bit h0 h1]
  simp
theorem less_within (x : En) (to : BitVec 64) : within (lessE to x).t x.t = true := by
  unfold within
  rw [decide_eq_true_eq]
  refine bv_ext fun i hi => ?_
  simp only [lessE, BitVec.getLsbD_and, BitVec.getLsbD_not, hi, decide_true, Bool.true_and]
  cases x.t.getLsbD i <;> cases to.getLsbD i <;> simp
end Go.Shoal
