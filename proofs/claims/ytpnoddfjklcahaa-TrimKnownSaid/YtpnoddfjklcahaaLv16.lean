import Derived.Test.YtpnoddfjklcahaaLv15
import Derived.Test.YtpnoddfjklcahaaDa1
import Derived.Deep.Strs
set_option linter.all false
namespace Go.Lv
open Go.ChangeShapes Go.WideShapes Go.ChangeAt Go.RowKit Go.Shoal
section
variable {H : Type} {enc : TypeId × Value → H} {P : Program} {w : World} {base : Nat} {spare : Nat → Bool} {held : Bool}

theorem wf_i64 {n : Int} (h : (Lit.int .i64 n).wf = true) : -9223372036854775808 ≤ n ∧ n ≤ 9223372036854775807 := by
  simp only [Lit.wf, Bool.and_eq_true, decide_eq_true_eq] at h
  have h1 : IntKind.i64.min = -9223372036854775808 := rfl
  have h2 : IntKind.i64.max = 9223372036854775807 := rfl
  omega
theorem wf_u64 {n : Int} (h : (Lit.int .u64 n).wf = true) : ∃ b : BitVec 64, n = (b.toNat : Int) := by
  simp only [Lit.wf, Bool.and_eq_true, decide_eq_true_eq] at h
  have h1 : IntKind.u64.min = 0 := rfl
  have h2 : IntKind.u64.max = 18446744073709551615 := rfl
  refine ⟨BitVec.ofNat 64 n.toNat, ?_⟩
  rw [BitVec.toNat_ofNat, Nat.mod_eq_of_lt (by omega)]
  omega

theorem open_en {t : TypeId} {f0 f1 f2 : Field} {n : Nat} {cs : List Value} {y : DataW H × List MemPlace} (ht : P.underlying t = some (.struct #[f0, f1, f2])) (h0 : P.underlying f0.type = some (.int .i64)) (h1 : P.underlying f1.type = some (.int .u64)) (h2 : P.underlying f2.type = some (.int .u64))
    (hC : P.cellsOf t = 3) (hc : (P.cellsOf f0.type, P.cellsOf f1.type, P.cellsOf f2.type) = (1, 1, 1)) (ho : (f0.offset, f1.offset, f2.offset) = (0, 1, 2)) (h : DataW.trod enc P w base spare held n t cs = some y) : ∃ a : En, cs = encEn.enc a := by
  obtain ⟨y0, y1, y2, m, _, hl, k0, k1, k2⟩ := Go.Deep.trod_struct3 ht h
  simp only [Prod.mk.injEq] at hc ho
  rw [hc.1, ho.1] at k0
  rw [hc.2.1, ho.2.1] at k1
  rw [hc.2.2, ho.2.2] at k2
  obtain ⟨a, ea, _, _⟩ := DataW.trod_int h0 k0
  obtain ⟨b, eb, _, wb⟩ := DataW.trod_int h1 k1
  obtain ⟨c, ec, _, wc⟩ := DataW.trod_int h2 k2
  obtain ⟨b, rfl⟩ := wf_u64 wb
  obtain ⟨c, rfl⟩ := wf_u64 wc
  refine ⟨⟨a, b, c⟩, ?_⟩
  match cs, hl.trans hC with
  | [x, y, z], _ =>
    simp at ea eb ec
    subst ea; subst eb; subst ec
    rfl
theorem wf_u8 {n : Int} (h : (Lit.int .u8 n).wf = true) : ∃ b : UInt8, n = (b.toNat : Int) := by
  simp only [Lit.wf, Bool.and_eq_true, decide_eq_true_eq] at h
  have h1 : IntKind.u8.min = 0 := rfl
  have h2 : IntKind.u8.max = 255 := rfl
  refine ⟨UInt8.ofNat n.toNat, ?_⟩
  have : (UInt8.ofNat n.toNat).toNat = n.toNat := by simp; omega
  rw [this]; omega
theorem open_byte {t : TypeId} {n : Nat} {cs : List Value} {y : DataW H × List MemPlace} (ht : P.underlying t = some (.int .u8)) (h : DataW.trod enc P w base spare held n t cs = some y) : ∃ a : UInt8, cs = encB.enc a := by
  obtain ⟨a, ea, _, wa⟩ := DataW.trod_int ht h
  obtain ⟨b, rfl⟩ := wf_u8 wa
  exact ⟨b, ea⟩
theorem open_i64 {t : TypeId} {n : Nat} {cs : List Value} {y : DataW H × List MemPlace} (ht : P.underlying t = some (.int .i64)) (h : DataW.trod enc P w base spare held n t cs = some y) : ∃ a : Int, cs = (encIv .i64).enc a := by
  obtain ⟨a, ea, _, wa⟩ := DataW.trod_int ht h
  exact ⟨a, ea⟩
end
end Go.Lv
