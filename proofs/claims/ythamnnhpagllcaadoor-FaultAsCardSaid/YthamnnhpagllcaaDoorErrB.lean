/- Errors as they lie in memory; errors.As at the program's numbers. -/
import Derived.Test.YthamnnhpagllcaaDoorErrA
import Derived.Test.YthamnnhpagllcaaDoorShelf
import Derived.Deep.LoopGhost
namespace Go.Proofs.YthamnnhpagllcaaDoor
open Go.RowKit Go.Extern.Stop Go.Stop Go.Extern

/-- What is told of an error: its first number, what was done on the way, its text, all its numbers. -/
structure EA where
  first : Int
  ops : List ByteArray
  txt : List UInt8
  nums : List Int
def errTxt (n : Int) : List UInt8 := [101, 114, 114, 32] ++ Lib.itoa n
/-- An error in memory: its blocks lie below B; d: how deep joined ones stand in one another; k: how many faults ahead. -/
inductive IsE (W : World) (B : Nat) : Nat → Nat → Value → EA → Prop
  | num (d : Nat) (n : Int) (h0 : -9223372036854775808 ≤ n) (h1 : n ≤ 9223372036854775807) : IsE W B d 0 (.iface 25 (.int .i64 n)) ⟨n, [], errTxt n, [n]⟩
  | fault (d k b : Nat) (op nm : ByteArray) (x : Value) (a : EA) (hb : b < B) (hr : W.heap[b]? = some (.cells #[.string op, .string nm, x] 43 (0, 0))) (h : IsE W B d k x a) :
      IsE W B d (k + 1) (.iface 39 (.pointer (some ⟨b, 0, none⟩))) ⟨a.first, op :: a.ops, op.data.toList ++ [32] ++ nm.data.toList ++ [58, 32] ++ a.txt, a.nums⟩
  | joined (d b r o len c : Nat) (ks : Nat → Nat) (xs : Nat → Value) (es : Nat → EA) (hb : b < B) (hrb : r < B) (hr : W.heap[b]? = some (.cells #[.slice (some ⟨r, o, none⟩) len c] 60 (0, 0))) (hl : 0 < len) (hlc : len ≤ c) (hm : len ≤ 1000)
      (hc : ∀ i, i < len → W.cell? ⟨r, o + i, none⟩ = some (xs i)) (h : ∀ i, i < len → IsE W B d (ks i) (xs i) (es i)) :
      IsE W B (d + 1) 0 (.iface 58 (.pointer (some ⟨b, 0, none⟩))) ⟨(es 0).first, (es 0).ops, Lib.join ((List.range len).map fun i => (es i).txt) [10], (List.range len).flatMap fun i => (es i).nums⟩
theorem IsE.under {W W' : World} {B d k : Nat} {v : Value} {a : EA} (h : IsE W B d k v a) (hb : Below B W W') : IsE W' B d k v a := by
  induction h with
  | num d n h0 h1 => exact .num d n h0 h1
  | fault d k b op nm x a hbB hr _ ih => exact .fault d k b op nm x a hbB ((hb.block _ hbB).trans hr) ih
  | joined d b r o len c ks xs es hbB hrb hr hl hlc hm hc _ ih => exact .joined d b r o len c ks xs es hbB hrb ((hb.block _ hbB).trans hr) hl hlc hm (fun i hi => (hb.cell (p := ⟨r, o + i, none⟩) hrb).trans (hc i hi)) ih
theorem IsE.more {W : World} {B B' d k : Nat} {v : Value} {a : EA} (h : IsE W B d k v a) (hb : B ≤ B') : IsE W B' d k v a := by
  induction h with
  | num d n h0 h1 => exact .num d n h0 h1
  | fault d k b op nm x a hbB hr _ ih => exact .fault d k b op nm x a (by omega) hr ih
  | joined d b r o len c ks xs es hbB hrb hr hl hlc hm hc _ ih => exact .joined d b r o len c ks xs es (by omega) (by omega) hr hl hlc hm hc ih
theorem IsE.iface {W : World} {B d k : Nat} {v : Value} {a : EA} (h : IsE W B d k v a) : ∃ T x, v = .iface T x := by
  cases h <;> exact ⟨_, _, rfl⟩
theorem ifaceNil (T : TypeId) (x : Value) (w : World) : (binOp .eql 27 (.iface T x) .nilIface).run Tryd.prog w = .ok (.bool false) w := by
  have h : ∀ d : Nat, (Op.equalIn (d + 1) 27 (.iface T x) .nilIface).run Tryd.prog w = .ok false w := fun d => by simp [Op.equalIn, run_underlying Tryd.underlying27]
  simp only [binOp]
  simp [Op.equal, Op.maxDepth, h 9999]

/-! ### The calls without a body -/
theorem ext_ValueOf (args : Array Value) (w : World) : (callFunc 30 args).run Tryd.prog w = ((ReflectliteValue.unpack (args.getD 0 (.tuple #[]))).run Tryd.prog w).andThen fun v w' => .ok (.value v) w' :=
  run_callFunc_extern (e := fun args => ReflectliteValue.unpack (args.getD 0 (.tuple #[]))) Tryd.func30 (by kernel_rfl) (by kernel_rfl) (by kernel_rfl) (by kernel_rfl) args w
theorem ext_Type (args : Array Value) (w : World) : (callFunc 31 args).run Tryd.prog w = (((ReflectliteValue.methodAny (ReflectliteValue.valueError "reflectlite.Value.Type" 0) (fun t _ _ _ => ReflectliteType.toType t)) args).run Tryd.prog w).andThen fun v w' => .ok (.value v) w' :=
  run_callFunc_extern Tryd.func31 (by kernel_rfl) (by kernel_rfl) (by kernel_rfl) (by kernel_rfl) args w
theorem ext_IsNil (args : Array Value) (w : World) : (callFunc 32 args).run Tryd.prog w = (((ReflectliteValue.method (ReflectliteValue.valueError "reflectlite.Value.IsNil" 0) ReflectliteValue.isNil) args).run Tryd.prog w).andThen fun v w' => .ok (.value v) w' :=
  run_callFunc_extern Tryd.func32 (by kernel_rfl) (by kernel_rfl) (by kernel_rfl) (by kernel_rfl) args w
theorem ext_Kind (args : Array Value) (w : World) : (callFunc 72 args).run Tryd.prog w = (((ReflectliteType.abiMethod fun t => do pure (.int .u8 (← Rtype.kind t))) args).run Tryd.prog w).andThen fun v w' => .ok (.value v) w' :=
  run_callFunc_extern Tryd.func72 (by kernel_rfl) (by kernel_rfl) (by kernel_rfl) (by kernel_rfl) args w
theorem ext_TElem (args : Array Value) (w : World) : (callFunc 83 args).run Tryd.prog w = (((ReflectliteType.method ReflectliteType.elem) args).run Tryd.prog w).andThen fun v w' => .ok (.value v) w' :=
  run_callFunc_extern Tryd.func83 (by kernel_rfl) (by kernel_rfl) (by kernel_rfl) (by kernel_rfl) args w
theorem ext_Impl (args : Array Value) (w : World) : (callFunc 84 args).run Tryd.prog w = (((ReflectliteType.relation "Implements" ReflectliteType.implements_) args).run Tryd.prog w).andThen fun v w' => .ok (.value v) w' :=
  run_callFunc_extern Tryd.func84 (by kernel_rfl) (by kernel_rfl) (by kernel_rfl) (by kernel_rfl) args w
theorem ext_TypeOf (args : Array Value) (w : World) : (callFunc 25 args).run Tryd.prog w = ((ReflectliteType.typeOf args).run Tryd.prog w).andThen fun v w' => .ok (.value v) w' :=
  run_callFunc_extern Tryd.func25 (by kernel_rfl) (by kernel_rfl) (by kernel_rfl) (by kernel_rfl) args w
theorem ext_Assign (args : Array Value) (w : World) : (callFunc 81 args).run Tryd.prog w = (((ReflectliteType.relation "AssignableTo" ReflectliteType.assignableTo) args).run Tryd.prog w).andThen fun v w' => .ok (.value v) w' :=
  run_callFunc_extern Tryd.func81 (by kernel_rfl) (by kernel_rfl) (by kernel_rfl) (by kernel_rfl) args w
theorem ext_VElem (args : Array Value) (w : World) : (callFunc 36 args).run Tryd.prog w = (((ReflectliteValue.method (ReflectliteValue.valueError "reflectlite.Value.Elem" 0) ReflectliteValue.elem) args).run Tryd.prog w).andThen fun v w' => .ok (.value v) w' :=
  run_callFunc_extern Tryd.func36 (by kernel_rfl) (by kernel_rfl) (by kernel_rfl) (by kernel_rfl) args w
theorem ext_Set (args : Array Value) (w : World) : (callFunc 37 args).run Tryd.prog w = ((ReflectliteValue.set args).run Tryd.prog w).andThen fun v w' => .ok (.value v) w' :=
  run_callFunc_extern Tryd.func37 (by kernel_rfl) (by kernel_rfl) (by kernel_rfl) (by kernel_rfl) args w
/-! ### Unwrap -/
set_option maxRecDepth 100000 in
theorem unwrapF_any (b : Nat) (op nm : ByteArray) (x : Value) (w : World) (hr : w.heap[b]? = some (.cells #[.string op, .string nm, x] 43 (0, 0))) :
    Calls Tryd.prog 18 #[.pointer (some ⟨b, 0, none⟩)] w fun e w' => e = .returned x ∧ w' = w := by
  have c2 : w.cell? ⟨b, 2, none⟩ = some x := cell_of_row _ _ 2 _ _ _ hr
  clear hr
  go_enter Tryd.func18, Tryd.ntmps18
  go_wp2
  go_ret
  exact ⟨rfl, rfl⟩
theorem iface_one {W : World} {B d k : Nat} {v : Value} {a : EA} (h : IsE W B d k v a) : v.oneCell' = true := by
  cases h <;> rfl
/-- The list of a joined error, copied: its cells are what they were. -/
def UnwJ (xs : Nat → Value) (len : Nat) (w : World) (e : Ending) (w' : World) : Prop := ∃ r c, e = .returned (.slice (some ⟨r, 0, none⟩) len c) ∧ (∀ i, i < len → w'.cell? ⟨r, i, none⟩ = some (xs i)) ∧ r < w'.heap.size ∧ Below w.heap.size w w'
set_option maxRecDepth 100000 in
theorem unwrapJ_any (b r o len c : Nat) (xs : Nat → Value) (w : World) (hr : w.heap[b]? = some (.cells #[.slice (some ⟨r, o, none⟩) len c] 60 (0, 0))) (hl : 0 < len) (hm : len ≤ 1000) (hc : ∀ i, i < len → w.cell? ⟨r, o + i, none⟩ = some (xs i)) (h1 : ∀ i, i < len → (xs i).oneCell' = true) :
    Calls Tryd.prog 75 #[.pointer (some ⟨b, 0, none⟩)] w (UnwJ xs len w) := by
  have c0 : w.cell? ⟨b, 0, none⟩ = some (.slice (some ⟨r, o, none⟩) len c) := cell_of_row _ _ 0 _ _ _ hr
  obtain ⟨i0, hi, hzz⟩ := Option.map_eq_some_iff.1 (show (Tryd.prog.info? 27).map (fun i => (i.zero, i.size, i.bytes)) = some (some .nilIface, 1, 16) by kernel_rfl)
  simp only [Prod.mk.injEq] at hzz
  obtain ⟨hz0, hz1, hz2⟩ := hzz
  have hcl := Tryd.slices_Clone i0 .nilIface 1 16 hi hz0 hz1 hz2 rfl (by omega) (fun w => by kernel_rfl) r o len c ((List.range len).map xs) w (by simp) (by unfold maxLen; omega) (by omega)
    (fun j u hu => by
      have hj : j < len := by
        have := (List.getElem?_eq_some_iff.1 hu).1
        simpa using this
      rw [hc j hj]
      simpa [List.getElem?_range hj] using hu)
    (fun u hu => by
      simp only [List.mem_map, List.mem_range] at hu
      obtain ⟨i, hi, rfl⟩ := hu
      exact h1 i hi)
  have Hcl := keep hcl
  clear hr hc h1 hcl hi hz0 hz1 hz2
  go_enter Tryd.func75, Tryd.ntmps75
  go_wp2_with fail
  refine Hcl.out.mono ?_
  rintro e w1 ⟨v1, rfl, hO, hne, hB⟩
  have hpost : UnwJ xs len w (.returned v1) w1 := by
    obtain ⟨g, cap, rfl, _, hlt⟩ := hO.form hl
    refine ⟨g, cap, rfl, fun i hi => ?_, hlt, hB⟩
    have h := hO.cells (g := g) rfl i (xs i) (by simp [List.getElem?_range hi])
    have hadd : (⟨g, 0, none⟩ : Addr).add i = ⟨g, i, none⟩ := by unfold Addr.add; split <;> simp_all
    rwa [hadd] at h
  have Hp := keep hpost
  clear hpost hO hne hB
  go_wp2_with fail
  go_ret
  exact Hp.out
end Go.Proofs.YthamnnhpagllcaaDoor
