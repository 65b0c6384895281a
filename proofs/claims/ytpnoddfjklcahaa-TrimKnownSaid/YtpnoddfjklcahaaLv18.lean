import Derived.Test.YtpnoddfjklcahaaLv17
import Derived.Laws.IdiomStrings
import Derived.Laws.BytesArg
import Derived.Carry
set_option linter.all false
namespace Go.Lv
open Go.RowKit
section
variable {P : Program} {N K : Nat} {o : Oper} {l : Env} {w : World}

/-- 'string(b)' -/
theorem Yield.bytesStr {src dst e : TypeId} {x : Operand} {A : Option Addr} {n c : Nat} {bs : List UInt8} (hop : o.op = .convert src dst x) (hx : evalE l x = some (.slice A n c)) (hs : P.underlying src = some (.slice e)) (he : P.underlying e = some (.int .u8)) (hd : P.underlying dst = some .string)
    (hr : Rd encB w A bs) (hn : bs.length = n) : Yield P N o l w (.string ⟨bs.toArray⟩) := by
  intro ac q hst
  subst hn
  simp only [execOp, hop]
  rw [hst.eval hx]
  refine run_v ?_
  cases A with
  | none =>
    have : bs = [] := hr.none_nil rfl
    subst this
    exact run_convert_bytes_nil (w.drewN q) src e hs he _ _ dst hd
  | some ad =>
    refine run_convert_bytes_back (w.drewN q) src dst e ad c bs hs he hd fun j hj => ?_
    have h1 : bs[j]? = some bs[j] := List.getElem?_eq_getElem hj
    have := Rd.at hr h1 0 (.int .u8 (bs[j].toNat : Int)) rfl
    rw [add_add] at this
    have e1 : j * encB.sz + 0 = j := by show j * 1 + 0 = j; omega
    rw [e1] at this
    exact this
end

section
open Go.ChangeShapes
variable {H : Type} {enc : TypeId × Value → H} {P : Program} {w : World} {base : Nat} {spare : Nat → Bool} {held : Bool}
theorem trodAll_five {t0 t1 t2 t3 t4 : TypeId} {args : Array Value} {ds : List (DataW H)} {ps : List MemPlace} (h : DataW.TrodAll enc P w base spare held [t0, t1, t2, t3, t4] args.toList ds ps) :
    ∃ v0 v1 v2 v3 v4 d0 d1 d2 d3 d4 p0 p1 p2 p3 p4, args = #[v0, v1, v2, v3, v4] ∧ ds = [d0, d1, d2, d3, d4] ∧ ps = p0 ++ p1 ++ p2 ++ p3 ++ p4 ∧ DataW.Trod enc P w base spare held t0 v0 d0 p0 ∧ DataW.Trod enc P w base spare held t1 v1 d1 p1 ∧ DataW.Trod enc P w base spare held t2 v2 d2 p2 ∧ DataW.Trod enc P w base spare held t3 v3 d3 p3 ∧ DataW.Trod enc P w base spare held t4 v4 d4 p4 := by
  obtain ⟨v0, vs0, d0, e0, p0, q0, hargs, rfl, rfl, h0, r0⟩ := trodAll_cons h
  obtain ⟨v1, vs1, d1, e1, p1, q1, rfl, rfl, rfl, h1, r1⟩ := trodAll_cons r0
  obtain ⟨v2, vs2, d2, e2, p2, q2, rfl, rfl, rfl, h2, r2⟩ := trodAll_cons r1
  obtain ⟨v3, vs3, d3, e3, p3, q3, rfl, rfl, rfl, h3, r3⟩ := trodAll_cons r2
  obtain ⟨v4, vs4, d4, e4, p4, q4, rfl, rfl, rfl, h4, r4⟩ := trodAll_cons r3
  obtain ⟨rfl, rfl, rfl⟩ := trodAll_nil r4
  exact ⟨v0, v1, v2, v3, v4, d0, d1, d2, d3, d4, p0, p1, p2, p3, p4, by cases args; simp_all, rfl, by simp, h0, h1, h2, h3, h4⟩
end
end Go.Lv
