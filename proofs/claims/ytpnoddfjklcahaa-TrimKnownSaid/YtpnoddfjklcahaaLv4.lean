import Derived.Test.YtpnoddfjklcahaaLv3
import Derived.WalkSpells
set_option linter.all false
namespace Go.Lv
open Go.RowKit
section
variable {P : Program} {N : Nat} {o : Oper} {l : Env} {w : World}

/-! ### operations that read alone -/

theorem Yield.cast {v v' : Value} (h : Yield P N o l w v) (e : v = v') : Yield P N o l w v' := e ▸ h

/-- by the run of what the operation is, once the operands are known -/
theorem Yield.of_run {v : Value} (h : ∀ a n, St N l a → (execOp a.eval o).run P (w.drewN n) = .ok (.value v) (w.drewN n)) : Yield P N o l w v := h

theorem run_v {S : Sem Value} {v : Value} {w1 w2 : World} (h : S.run P w1 = .ok v w2) : (do pure (Next.value (← S)) : Sem Next).run P w1 = .ok (.value v) w2 := by
  simp [h]
theorem run_u {S : Sem Unit} {w1 w2 : World} (h : S.run P w1 = .ok () w2) : (do S; pure Next.skip : Sem Next).run P w1 = .ok .skip w2 := by
  simp [h]

theorem Yield.move {x : Operand} {v : Value} (hop : o.op = .move x) (hx : evalE l x = some v) : Yield P N o l w v := by
  intro a n hs; simp only [execOp, hop]; rw [hs.eval hx]; rfl
theorem Yield.assign {x : Operand} {v : Value} (hop : o.op = .assign x) (hx : evalE l x = some v) : Yield P N o l w v := by
  intro a n hs; simp only [execOp, hop]; rw [hs.eval hx]; rfl
theorem Yield.pick {c x y : Operand} {b : Bool} {u v : Value} (hop : o.op = .pick c x y) (hc : evalE l c = some (.bool b)) (hx : evalE l x = some u) (hy : evalE l y = some v) : Yield P N o l w (if b then u else v) := by
  intro a n hs; simp only [execOp, hop]; rw [hs.eval hc, hs.eval hx, hs.eval hy]; cases b <;> rfl
theorem Yield.pick_t {c x y : Operand} {u : Value} (hop : o.op = .pick c x y) (hc : evalE l c = some (.bool true)) (hx : evalE l x = some u) : Yield P N o l w u := by
  intro a n hs; simp only [execOp, hop]; rw [hs.eval hc, hs.eval hx]; rfl
theorem Yield.pick_f {c x y : Operand} {u : Value} (hop : o.op = .pick c x y) (hc : evalE l c = some (.bool false)) (hy : evalE l y = some u) : Yield P N o l w u := by
  intro a n hs; simp only [execOp, hop]; rw [hs.eval hc, hs.eval hy]; rfl
theorem Yield.nilCheck {x : Operand} {ad : Addr} (hop : o.op = .nilCheck x) (hx : evalE l x = some (.pointer (some ad))) : Yield P N o l w (.pointer (some ad)) := by
  intro a n hs; simp only [execOp, hop]; rw [hs.eval hx]; rfl
theorem Yield.nilCheck_func {x : Operand} {f : FuncId} {fi ca : Array Value} (hop : o.op = .nilCheck x) (hx : evalE l x = some (.func (.func f) fi ca)) : Yield P N o l w (.func (.func f) fi ca) := by
  intro a n hs; simp only [execOp, hop]; rw [hs.eval hx]; rfl
theorem Yield.nilCheck_iface {x : Operand} {t : TypeId} {u : Value} (hop : o.op = .nilCheck x) (hx : evalE l x = some (.iface t u)) : Yield P N o l w (.iface t u) := by
  intro a n hs; simp only [execOp, hop]; rw [hs.eval hx]; rfl

/-- what an operation on two whole numbers gives, where it gives -/
def arithV (op : BinOp) (k : IntKind) (a b : Int) : Option Value :=
  match op with
  | .add => some (.int k (k.wrap (a + b)))
  | .sub => some (.int k (k.wrap (a - b)))
  | .mul => some (.int k (k.wrap (a * b)))
  | .eql => some (.bool (decide (a = b)))
  | .neq => some (.bool (decide (a ≠ b)))
  | .lss => some (.bool (decide (a < b)))
  | .leq => some (.bool (decide (a ≤ b)))
  | .gtr => some (.bool (decide (a > b)))
  | .geq => some (.bool (decide (a ≥ b)))
  | .and => some (.int k (k.wrap (BitVec.ofInt k.bits a &&& BitVec.ofInt k.bits b).toNat))
  | .or => some (.int k (k.wrap (BitVec.ofInt k.bits a ||| BitVec.ofInt k.bits b).toNat))
  | .xor => some (.int k (k.wrap (BitVec.ofInt k.bits a ^^^ BitVec.ofInt k.bits b).toNat))
  | .andNot => some (.int k (k.wrap (BitVec.ofInt k.bits a &&& ~~~ BitVec.ofInt k.bits b).toNat))
  | _ => none

theorem Yield.bin {op : BinOp} {t ty : TypeId} {x y : Operand} {k : IntKind} {a b : Int} {v : Value} (hop : o.op = .binOp op t x y ty) (hx : evalE l x = some (.int k a)) (hy : evalE l y = some (.int k b)) (h : arithV op k a b = some v) : Yield P N o l w v := by
  intro ac n hs
  simp only [execOp, hop]
  rw [hs.eval hx, hs.eval hy]
  refine run_v ?_
  cases op <;> simp only [arithV, Option.some.injEq, reduceCtorEq] at h <;> subst h <;>
    simp [eqGuard, binOp, Op.intArith, Op.intCmp, Op.intBits, bne, BEq.beq]

theorem Yield.shl {t ty : TypeId} {x y : Operand} {k q : IntKind} {a b : Int} (hop : o.op = .binOp .shl t x y ty) (hx : evalE l x = some (.int k a)) (hy : evalE l y = some (.int q b)) (h : 0 ≤ b) : Yield P N o l w (.int k (k.wrap (a * 2 ^ (min b.toNat k.bits)))) := by
  intro ac n hs
  simp only [execOp, hop]
  rw [hs.eval hx, hs.eval hy]
  refine run_v ?_
  simp [eqGuard, binOp, Op.shift, Int.not_lt.2 h]
theorem Yield.shr {t ty : TypeId} {x y : Operand} {k q : IntKind} {a b : Int} (hop : o.op = .binOp .shr t x y ty) (hx : evalE l x = some (.int k a)) (hy : evalE l y = some (.int q b)) (h : 0 ≤ b) : Yield P N o l w (.int k (a.fdiv (2 ^ (min b.toNat k.bits)))) := by
  intro ac n hs
  simp only [execOp, hop]
  rw [hs.eval hx, hs.eval hy]
  refine run_v ?_
  simp [eqGuard, binOp, Op.shift, Int.not_lt.2 h]
theorem Yield.quo {t ty : TypeId} {x y : Operand} {k : IntKind} {a b : Int} (hop : o.op = .binOp .quo t x y ty) (hx : evalE l x = some (.int k a)) (hy : evalE l y = some (.int k b)) (h : b ≠ 0) : Yield P N o l w (.int k (k.wrap (a.tdiv b))) := by
  intro ac n hs
  simp only [execOp, hop]
  rw [hs.eval hx, hs.eval hy]
  refine run_v ?_
  simp [eqGuard, binOp, Op.intDiv, h]
theorem Yield.rem {t ty : TypeId} {x y : Operand} {k : IntKind} {a b : Int} (hop : o.op = .binOp .rem t x y ty) (hx : evalE l x = some (.int k a)) (hy : evalE l y = some (.int k b)) (h : b ≠ 0) : Yield P N o l w (.int k (a.tmod b)) := by
  intro ac n hs
  simp only [execOp, hop]
  rw [hs.eval hx, hs.eval hy]
  refine run_v ?_
  simp [eqGuard, binOp, Op.intDiv, h]
theorem Yield.eqBool {t ty : TypeId} {x y : Operand} {a b : Bool} (hop : o.op = .binOp .eql t x y ty) (hx : evalE l x = some (.bool a)) (hy : evalE l y = some (.bool b)) (ht : P.underlying t = some .bool) : Yield P N o l w (.bool (a == b)) := by
  intro ac n hs
  simp only [execOp, hop]
  rw [hs.eval hx, hs.eval hy]
  refine run_v ?_
  simp [eqGuard, run_eql_bool _ t a b ht]
theorem Yield.neBool {t ty : TypeId} {x y : Operand} {a b : Bool} (hop : o.op = .binOp .neq t x y ty) (hx : evalE l x = some (.bool a)) (hy : evalE l y = some (.bool b)) (ht : P.underlying t = some .bool) : Yield P N o l w (.bool (!(a == b))) := by
  intro ac n hs
  simp only [execOp, hop]
  rw [hs.eval hx, hs.eval hy]
  refine run_v ?_
  simp [eqGuard, run_neq_bool _ t a b ht]
theorem str_beq (a b : ByteArray) : (a.toList == b.toList) = decide (a = b) := by
  rw [Bool.eq_iff_iff]
  simp only [beq_iff_eq, decide_eq_true_eq, ByteArray.toList_eq]
  exact ⟨fun h => ByteArray.ext (Array.toList_inj.mp h), fun h => by rw [h]⟩
theorem Yield.eqStr {t ty : TypeId} {x y : Operand} {a b : ByteArray} (hop : o.op = .binOp .eql t x y ty) (hx : evalE l x = some (.string a)) (hy : evalE l y = some (.string b)) : Yield P N o l w (.bool (decide (a = b))) := by
  intro ac n hs
  simp only [execOp, hop]
  rw [hs.eval hx, hs.eval hy]
  refine run_v ?_
  simp [eqGuard, binOp, Op.stringOp, str_beq]
theorem Yield.neStr {t ty : TypeId} {x y : Operand} {a b : ByteArray} (hop : o.op = .binOp .neq t x y ty) (hx : evalE l x = some (.string a)) (hy : evalE l y = some (.string b)) : Yield P N o l w (.bool (decide (a ≠ b))) := by
  intro ac n hs
  simp only [execOp, hop]
  rw [hs.eval hx, hs.eval hy]
  refine run_v ?_
  simp [eqGuard, binOp, Op.stringOp, str_beq]

theorem Yield.not {t : TypeId} {x : Operand} {b : Bool} (hop : o.op = .unOp .not t x) (hx : evalE l x = some (.bool b)) : Yield P N o l w (.bool (!b)) := by
  intro ac n hs
  simp only [execOp, hop]
  rw [hs.eval hx]
  exact run_v (by simp [Op.unary])
theorem Yield.not_dec {t : TypeId} {x : Operand} {p : Prop} [Decidable p] (hop : o.op = .unOp .not t x) (hx : evalE l x = some (.bool (decide p))) : Yield P N o l w (.bool (decide (¬ p))) := by
  refine (Yield.not hop hx).cast ?_
  simp
theorem Yield.neg {t : TypeId} {x : Operand} {k : IntKind} {b : Int} (hop : o.op = .unOp .neg t x) (hx : evalE l x = some (.int k b)) : Yield P N o l w (.int k (k.wrap (0 - b))) := by
  intro ac n hs
  simp only [execOp, hop]
  rw [hs.eval hx]
  exact run_v (by simp [Op.unary, Op.intArith])

theorem Yield.convInt {s d : TypeId} {x : Operand} {k q : IntKind} {b : Int} {ds : TypeDesc} (hop : o.op = .convert s d x) (hx : evalE l x = some (.int k b)) (hs' : ∀ w, (underlying s).run P w = .ok ds w) (hd : ∀ w, (underlying d).run P w = .ok (.int q) w) :
    Yield P N o l w (.int q (q.wrap b)) := by
  intro ac n hs
  simp only [execOp, hop]
  rw [hs.eval hx]
  refine run_v ?_
  cases ds <;> simp [convert, hs' _, hd _, Conv.intToInt]

theorem Yield.extract {x : Operand} {i : Nat} {vs : Array Value} {v : Value} (hop : o.op = .extract x i) (hx : evalE l x = some (.tuple vs)) (hv : vs[i]? = some v) : Yield P N o l w v := by
  intro ac n hs
  simp only [execOp, hop]
  rw [hs.eval hx]
  exact run_v (by simp [Instr.extract, hv])

theorem Yield.fieldAddr {s : TypeId} {x : Operand} {i : Nat} {fs : Array Field} {f : Field} {ad : Addr} {q : Nat} (hop : o.op = .fieldAddr s x i) (hx : evalE l x = some (.pointer (some ad))) (hu : ∀ w, (underlying s).run P w = .ok (.struct fs) w) (hf : fs[i]? = some f)
    (hz : ∀ w, (sizeOf f.type).run P w = .ok (q + 1) w) : Yield P N o l w (.pointer (some (ad.add f.offset))) := by
  intro ac n hs
  simp only [execOp, hop]
  rw [hs.eval hx]
  refine run_v ?_
  simp [Instr.fieldAt, hu _, hf, Instr.sureAddr, fieldPlace, hz _]

/-- a field's address in a block from its begin on -/
theorem Yield.fieldAt {s : TypeId} {x : Operand} {i : Nat} {fs : Array Field} {f : Field} {b j k : Nat} {q : Nat} (hop : o.op = .fieldAddr s x i) (hx : evalE l x = some (.pointer (some ⟨b, j, none⟩))) (hu : ∀ w, (underlying s).run P w = .ok (.struct fs) w) (hf : fs[i]? = some f)
    (hz : ∀ w, (sizeOf f.type).run P w = .ok (q + 1) w) (hk : j + f.offset = k) : Yield P N o l w (.pointer (some ⟨b, k, none⟩)) := by
  refine (Yield.fieldAddr hop hx hu hf hz).cast ?_
  subst hk
  unfold Addr.add
  by_cases e : f.offset = 0
  · simp [e]
  · simp [e]

theorem Yield.load {t : TypeId} {x : Operand} {ad : Addr} {v : Value} (hop : o.op = .load t x) (hx : evalE l x = some (.pointer (some ad))) (ha : ∀ w, (isAgg t).run P w = .ok false w) (hc : w.cell? ad = some v) : Yield P N o l w v := by
  intro ac n hs
  simp only [execOp, hop]
  rw [hs.eval hx]
  refine run_v ?_
  have hc' : (w.drewN n).cell? ad = some v := hc
  simp [Instr.loadAt, Instr.sureAddr, loadVar, ha _, hc']

theorem Yield.loadAgg {t : TypeId} {x : Operand} {ad : Addr} {cs : List Value} (hop : o.op = .load t x) (hx : evalE l x = some (.pointer (some ad))) (ha : ∀ w, (isAgg t).run P w = .ok true w) (hz : ∀ w, (sizeOf t).run P w = .ok cs.length w)
    (hc : ∀ j v, cs[j]? = some v → w.cell? (ad.add j) = some v) : Yield P N o l w (.agg cs.toArray) := by
  intro ac n hs
  simp only [execOp, hop]
  rw [hs.eval hx]
  refine run_v ?_
  have := run_loadCells_list (P := P) (w := w.drewN n) ad cs hc
  simp [Instr.loadAt, Instr.sureAddr, loadVar, ha _, hz _, this]

theorem Yield.field {s : TypeId} {x : Operand} {i : Nat} {fs : Array Field} {f : Field} {cs : Array Value} {v : Value} (hop : o.op = .field s x i) (hx : evalE l x = some (.agg cs)) (hu : ∀ w, (underlying s).run P w = .ok (.struct fs) w) (hf : fs[i]? = some f)
    (ha : ∀ w, (isAgg f.type).run P w = .ok false w) (hv : cs[f.offset]? = some v) : Yield P N o l w v := by
  intro ac n hs
  simp only [execOp, hop]
  rw [hs.eval hx]
  refine run_v ?_
  simp [Instr.field, hu _, hf, part, asAgg, ha _, hv]

theorem Yield.fieldAgg {s : TypeId} {x : Operand} {i : Nat} {fs : Array Field} {f : Field} {cs : Array Value} {q : Nat} (hop : o.op = .field s x i) (hx : evalE l x = some (.agg cs)) (hu : ∀ w, (underlying s).run P w = .ok (.struct fs) w) (hf : fs[i]? = some f)
    (ha : ∀ w, (isAgg f.type).run P w = .ok true w) (hz : ∀ w, (sizeOf f.type).run P w = .ok q w) : Yield P N o l w (.agg (cs.extract f.offset (f.offset + q))) := by
  intro ac n hs
  simp only [execOp, hop]
  rw [hs.eval hx]
  refine run_v ?_
  simp [Instr.field, hu _, hf, part, asAgg, ha _, hz _]

theorem Yield.indexAddr {t e : TypeId} {x y : Operand} {ad : Addr} {len cap q : Nat} {k : IntKind} {i : Int} (hop : o.op = .indexAddr t x y) (hx : evalE l x = some (.slice (some ad) len cap)) (hy : evalE l y = some (.int k i)) (hu : ∀ w, (underlying t).run P w = .ok (.slice e) w)
    (hz : ∀ w, (sizeOf e).run P w = .ok q w) (h0 : 0 ≤ i) (h1 : i < len) : Yield P N o l w (.pointer (some (ad.add (i.toNat * q)))) := by
  intro ac n hs
  simp only [execOp, hop]
  rw [hs.eval hx, hs.eval hy]
  refine run_v ?_
  simp [Instr.indexAt, asIntOf, hu _, h0, h1, hz _]

theorem Yield.indexStr {t : TypeId} {x y : Operand} {s : ByteArray} {k : IntKind} {i : Int} {b : UInt8} (hop : o.op = .index t x y) (hx : evalE l x = some (.string s)) (hy : evalE l y = some (.int k i)) (hu : ∀ w, (underlying t).run P w = .ok .string w)
    (h0 : 0 ≤ i) (h1 : s[i.toNat]? = some b) : Yield P N o l w (.int .u8 b.toNat) := by
  intro ac n hs
  simp only [execOp, hop]
  rw [hs.eval hx, hs.eval hy]
  refine run_v ?_
  simp [Instr.index, asIntOf, hu _, h0, h1]

theorem Yield.lenSlice {x : Operand} {t : TypeId} {ad : Option Addr} {len cap : Nat} {e : TypeId} (hop : o.op = .call { callee := .builtin .len, args := #[x], argTypes := #[t] }) (hx : evalE l x = some (.slice ad len cap)) (hu : ∀ w, (underlying t).run P w = .ok (.slice e) w) :
    Yield P N o l w (.int .i64 len) := by
  intro ac n hs
  have h1 : execOp ac.eval o = builtin .len #[t] o.type (#[x].map fun | .const _ => true | _ => false) (#[x].map ac.eval) := by
    simp only [execOp, hop]; rfl
  rw [h1]
  have : (#[x].map ac.eval) = #[.slice ad len cap] := by simp [hs.eval hx]
  rw [this]
  simp [builtin, Builtin.len_, hu _, goInt]
theorem Yield.lenStr {x : Operand} {t : TypeId} {s : ByteArray} (hop : o.op = .call { callee := .builtin .len, args := #[x], argTypes := #[t] }) (hx : evalE l x = some (.string s)) (hu : ∀ w, (underlying t).run P w = .ok .string w) :
    Yield P N o l w (.int .i64 s.size) := by
  intro ac n hs
  have h1 : execOp ac.eval o = builtin .len #[t] o.type (#[x].map fun | .const _ => true | _ => false) (#[x].map ac.eval) := by
    simp only [execOp, hop]; rfl
  rw [h1]
  have : (#[x].map ac.eval) = #[.string s] := by simp [hs.eval hx]
  rw [this]
  simp [builtin, Builtin.len_, hu _, goInt]
theorem Yield.capSlice {x : Operand} {t : TypeId} {ad : Option Addr} {len cap : Nat} {e : TypeId} (hop : o.op = .call { callee := .builtin .cap, args := #[x], argTypes := #[t] }) (hx : evalE l x = some (.slice ad len cap)) (hu : ∀ w, (underlying t).run P w = .ok (.slice e) w) :
    Yield P N o l w (.int .i64 cap) := by
  intro ac n hs
  have h1 : execOp ac.eval o = builtin .cap #[t] o.type (#[x].map fun | .const _ => true | _ => false) (#[x].map ac.eval) := by
    simp only [execOp, hop]; rfl
  rw [h1]
  have : (#[x].map ac.eval) = #[.slice ad len cap] := by simp [hs.eval hx]
  rw [this]
  simp [builtin, Builtin.cap_, hu _, goInt]
theorem Yield.min2 {x y : Operand} {ts : Array TypeId} {k : IntKind} {a b : Int} (hop : o.op = .call { callee := .builtin .min, args := #[x, y], argTypes := ts }) (hx : evalE l x = some (.int k a)) (hy : evalE l y = some (.int k b)) :
    Yield P N o l w (.int k (if b < a then b else a)) := by
  intro ac n hs
  have h1 : execOp ac.eval o = builtin .min ts o.type (#[x, y].map fun | .const _ => true | _ => false) (#[x, y].map ac.eval) := by
    simp only [execOp, hop]; rfl
  rw [h1]
  have : (#[x, y].map ac.eval) = #[.int k a, .int k b] := by simp [hs.eval hx, hs.eval hy]
  rw [this]
  simp [builtin, run_min_int2]
theorem Yield.max2 {x y : Operand} {ts : Array TypeId} {k : IntKind} {a b : Int} (hop : o.op = .call { callee := .builtin .max, args := #[x, y], argTypes := ts }) (hx : evalE l x = some (.int k a)) (hy : evalE l y = some (.int k b)) :
    Yield P N o l w (.int k (if b > a then b else a)) := by
  intro ac n hs
  have h1 : execOp ac.eval o = builtin .max ts o.type (#[x, y].map fun | .const _ => true | _ => false) (#[x, y].map ac.eval) := by
    simp only [execOp, hop]; rfl
  rw [h1]
  have : (#[x, y].map ac.eval) = #[.int k a, .int k b] := by simp [hs.eval hx, hs.eval hy]
  rw [this]
  simp [builtin, run_max_int2]

/-- an operand that may be missing -/
def evalO (l : Env) : Option Operand → Option (Option Value)
  | none => some none
  | some x => (evalE l x).map some

theorem St.evalO {a : Act} (h : St N l a) {x : Option Operand} {v : Option Value} (hx : evalO l x = some v) : x.map a.eval = v := by
  cases x with
  | none => simpa [Lv.evalO] using hx
  | some x =>
    simp only [Lv.evalO, Option.map_eq_some_iff] at hx
    obtain ⟨u, hu, rfl⟩ := hx
    simp [h.eval hu]

def loV (lo : Option Value) : Option Int := match lo with
  | none => some 0
  | some (.int _ i) => some i
  | _ => none
def hiV (d : Nat) (hi : Option Value) : Option Int := match hi with
  | none => some d
  | some (.int _ i) => some i
  | _ => none

theorem run_sliceBounds2 {isS : Bool} {len cap : Nat} {lo hi : Option Value} {a b : Int} (hlo : loV lo = some a) (hhi : hiV len hi = some b) (h0 : 0 ≤ a) (h1 : a ≤ b) (h2 : b ≤ cap) (w : World) :
    (Instr.sliceBounds isS len cap lo hi none).run P w = .ok (a.toNat, b.toNat, cap) w := by
  have hb0 : 0 ≤ b := by omega
  unfold Instr.sliceBounds
  match hi, hhi with
  | none, hhi =>
    simp only [hiV, Option.some.injEq] at hhi
    subst hhi
    match lo, hlo with
    | none, hlo => simp only [loV, Option.some.injEq] at hlo; subst hlo; simp
    | some (.int k i), hlo =>
      simp only [loV, Option.some.injEq] at hlo; subst hlo
      simp [Instr.sliceBound, asIntOf, h0, h1]
  | some (.int k i), hhi =>
    simp only [hiV, Option.some.injEq] at hhi
    subst hhi
    match lo, hlo with
    | none, hlo => simp only [loV, Option.some.injEq] at hlo; subst hlo; simp [Instr.sliceBound, asIntOf, hb0, h2]
    | some (.int k' i'), hlo =>
      simp only [loV, Option.some.injEq] at hlo; subst hlo
      have : ¬ (max i 0 < i') := by omega
      simp [Instr.sliceBound, asIntOf, h0, hb0, h2, this]

theorem Yield.slice {t e : TypeId} {x : Operand} {lo hi : Option Operand} {ad : Option Addr} {len cap q : Nat} {vl vh : Option Value} {a b : Int} (hop : o.op = .slice t x lo hi none) (hx : evalE l x = some (.slice ad len cap)) (hl : evalO l lo = some vl) (hh : evalO l hi = some vh)
    (hu : ∀ w, (underlying t).run P w = .ok (.slice e) w) (hz : ∀ w, (sizeOf e).run P w = .ok q w) (hlo : loV vl = some a) (hhi : hiV len vh = some b) (h0 : 0 ≤ a) (h1 : a ≤ b) (h2 : b ≤ cap) :
    Yield P N o l w (.slice (if cap = a.toNat then ad else ad.map (·.add (a.toNat * q))) (b.toNat - a.toNat) (cap - a.toNat)) := by
  intro ac n hs
  simp only [execOp, hop]
  rw [hs.eval hx, hs.evalO hl, hs.evalO hh]
  refine run_v ?_
  have hb := run_sliceBounds2 (P := P) (isS := true) (len := len) (cap := cap) hlo hhi h0 h1 h2
  simp [Instr.sliceAt, Instr.slice, hu _, hb, hz _]

theorem Yield.sliceStr {t : TypeId} {x : Operand} {lo hi : Option Operand} {s : ByteArray} {vl vh : Option Value} {a b : Int} (hop : o.op = .slice t x lo hi none) (hx : evalE l x = some (.string s)) (hl : evalO l lo = some vl) (hh : evalO l hi = some vh)
    (hu : ∀ w, (underlying t).run P w = .ok .string w) (hlo : loV vl = some a) (hhi : hiV s.size vh = some b) (h0 : 0 ≤ a) (h1 : a ≤ b) (h2 : b ≤ s.size) :
    Yield P N o l w (.string (s.extract a.toNat b.toNat)) := by
  intro ac n hs
  simp only [execOp, hop]
  rw [hs.eval hx, hs.evalO hl, hs.evalO hh]
  refine run_v ?_
  have hb := run_sliceBounds2 (P := P) (isS := false) (len := s.size) (cap := s.size) hlo hhi h0 h1 h2
  simp [Instr.sliceAt, Instr.slice, hu _, hb]

theorem Yield.makeInterface {t : TypeId} {x : Operand} {v : Value} (hop : o.op = .makeInterface t x) (hx : evalE l x = some v) (hc : P.concrete t = true) : Yield P N o l w (.iface t v) := by
  intro ac n hs
  simp only [execOp, hop]
  rw [hs.eval hx]
  exact run_v (run_makeInterface _ t v hc)

/-- slices held against nil -/
theorem elem_of {t e : TypeId} (h : P.underlying t = some (.slice e)) : P.underlying t = some (.slice (P.elem t)) := by
  simp [Program.elem, h]
theorem Yield.eqSliceNil {t ty : TypeId} {x y : Operand} {ad : Option Addr} {len cap : Nat} {e : TypeId} (hop : o.op = .binOp .eql t x y ty) (hx : evalE l x = some (.slice ad len cap)) (hy : evalE l y = some (.slice none 0 0)) (hu : P.underlying t = some (.slice e)) :
    Yield P N o l w (.bool ad.isNone) := by
  intro ac n hs
  simp only [execOp, hop]
  rw [hs.eval hx, hs.eval hy]
  refine run_v ?_
  simp [eqGuard, Lib.run_eql_slice_nil _ t e ad len cap 0 0 hu]
theorem Yield.neSliceNil {t ty : TypeId} {x y : Operand} {ad : Option Addr} {len cap : Nat} {e : TypeId} (hop : o.op = .binOp .neq t x y ty) (hx : evalE l x = some (.slice ad len cap)) (hy : evalE l y = some (.slice none 0 0)) (hu : P.underlying t = some (.slice e)) :
    Yield P N o l w (.bool ad.isSome) := by
  intro ac n hs
  simp only [execOp, hop]
  rw [hs.eval hx, hs.eval hy]
  refine run_v ?_
  cases ad <;> simp [eqGuard, run_neq_slice_nil_any _ t e _ len cap 0 0 hu]
theorem pointee_of {t e : TypeId} (h : P.underlying t = some (.pointer e)) : P.underlying t = some (.pointer (P.pointee t)) := by
  simp [Program.pointee, h]
theorem Yield.eqPtrNil {t ty : TypeId} {x y : Operand} {ad : Option Addr} {e : TypeId} (hop : o.op = .binOp .eql t x y ty) (hx : evalE l x = some (.pointer ad)) (hy : evalE l y = some (.pointer none)) (hu : P.underlying t = some (.pointer e)) :
    Yield P N o l w (.bool ad.isNone) := by
  intro ac n hs
  simp only [execOp, hop]
  rw [hs.eval hx, hs.eval hy]
  refine run_v ?_
  simp [eqGuard, run_eql_pointer_nil _ t ad (pointee_of hu)]
theorem Yield.nePtrNil {t ty : TypeId} {x y : Operand} {ad : Option Addr} {e : TypeId} (hop : o.op = .binOp .neq t x y ty) (hx : evalE l x = some (.pointer ad)) (hy : evalE l y = some (.pointer none)) (hu : P.underlying t = some (.pointer e)) :
    Yield P N o l w (.bool ad.isSome) := by
  intro ac n hs
  simp only [execOp, hop]
  rw [hs.eval hx, hs.eval hy]
  refine run_v ?_
  cases ad <;> simp [eqGuard, run_neq_pointer_nil _ t _ (pointee_of hu)]
end
end Go.Lv
