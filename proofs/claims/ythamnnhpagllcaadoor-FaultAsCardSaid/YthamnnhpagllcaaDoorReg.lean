/- A region that draws its order, walked by laws on whole operations: each step is one term, its side conditions closed facts for the kernel. -/
import Derived.Test.YthamnnhpagllcaaDoorKit
import Derived.Deep.MidRow
namespace Go.Proofs.YthamnnhpagllcaaDoor
open Go

section
variable {P : Program} {md : Region.Mode} {ops : Array Oper} {Q : Exit → Act → World → Prop} {S : World → Prop}
/-- What a region comes to, said once for all its ways. -/
theorem rg_then {id : Nat} {b : Bool} {a : Act} {w : World} (R : Act → World → Prop) (h : (Code.region id ops b).wp P (fun e a w => e = .normal ∧ R a w) a w) (hk : ∀ a w, R a w → Q .normal a w) : (Code.region id ops b).wp P Q a w :=
  Code.wp_mono (fun _ a w ⟨he, hr⟩ => he ▸ hk a w hr) h
/-- The region begins. -/
theorem rg_start {id : Nat} {a : Act} {w : World} (S : World → Prop) (hm : P.follows .mixedOrders = true) (hS : S w.drew)
    (h : S w.drew → wpAnyH P .any ops (NoPanic Q) S ops.size (Array.replicate ops.size false) a w.drew) : (Code.region id ops true).wp P Q a w :=
  wp_region_noPanic (wp_region_held_drew hm hS h)
/-- An operation that yields the same in whatever world comes first. -/
theorem rg_pure {fuel : Nat} {listed : Array Bool} {a : Act} {w : World} (i : Nat) {oi : Oper} (v : Value) (a' : Act) (hi : ops[i]? = some oi)
    (hs : Region.noSelect ops = true) (hf : Region.free md ops listed i = true) (hr : (Region.ready md ops listed).contains i = true)
    (hw : Region.wanted oi (yielded ops a.tmps) = true) (hv : ∀ W, (execOp a.eval oi).run P W = .ok (.value v) W) (ha : a.put oi.dst v = a') (hS : S w)
    (h : wpAnyH P md ops (NoPanic Q) S fuel (listed.setIfInBounds i true) a' w) : wpAnyH P md ops (NoPanic Q) S (fuel + 1) listed a w :=
  wpAnyH_take hi hs hf hr (fun _ _ _ h => h) (.inl ⟨hw, fun W _ => hv W⟩) hS (by rw [ha]; exact h)
/-- An operation that is not wanted (its guard is false). -/
theorem rg_idle {fuel : Nat} {listed : Array Bool} {a : Act} {w : World} (i : Nat) {oi : Oper} (a' : Act) (hi : ops[i]? = some oi)
    (hs : Region.noSelect ops = true) (hf : Region.free md ops listed i = true) (hr : (Region.ready md ops listed).contains i = true)
    (hw : Region.wanted oi (yielded ops a.tmps) = false) (ha : a.put oi.dst undef = a') (hS : S w)
    (h : wpAnyH P md ops (NoPanic Q) S fuel (listed.setIfInBounds i true) a' w) : wpAnyH P md ops (NoPanic Q) S (fuel + 1) listed a w :=
  wpAnyH_take hi hs hf hr (fun _ _ _ h => h) (.inr ⟨hw, rfl⟩) hS (by rw [ha]; exact h)
/-- An operation that yields the same in every world of the class. -/
theorem rg_read {fuel : Nat} {listed : Array Bool} {a : Act} {w : World} (i : Nat) {oi : Oper} (v : Value) (a' : Act) (hi : ops[i]? = some oi)
    (hs : Region.noSelect ops = true) (hf : Region.free md ops listed i = true) (hr : (Region.ready md ops listed).contains i = true)
    (hw : Region.wanted oi (yielded ops a.tmps) = true) (hv : ∀ W, S W → (execOp a.eval oi).run P W = .ok (.value v) W) (ha : a.put oi.dst v = a') (hS : S w)
    (h : wpAnyH P md ops (NoPanic Q) S fuel (listed.setIfInBounds i true) a' w) : wpAnyH P md ops (NoPanic Q) S (fuel + 1) listed a w :=
  wpAnyH_take hi hs hf hr (fun _ _ _ h => h) (.inl ⟨hw, hv⟩) hS (by rw [ha]; exact h)
/-- One operation alone may come up. -/
theorem rg_one {fuel : Nat} {listed : Array Bool} {a : Act} {w : World} (i : Nat) {oi : Oper} (hr : Region.ready md ops listed = [i]) (hi : ops[i]? = some oi) (hw : Region.wanted oi (yielded ops a.tmps) = true)
    (h : oi.wp P a w (fun a' w' => S w' ∧ wpAnyH P md ops (NoPanic Q) S fuel (listed.setIfInBounds i true) a' w') (NoPanic Q)) : wpAnyH P md ops (NoPanic Q) S (fuel + 1) listed a w :=
  wpAnyH_all hr (by simp) fun j hj => by
    obtain rfl : j = i := by simpa using hj
    unfold wpOp
    rw [hi]
    simp only [hw, if_true]
    exact .inl h
theorem rg_two {fuel : Nat} {listed : Array Bool} {a : Act} {w : World} (i j : Nat) {oi oj : Oper} (hr : Region.ready md ops listed = [i, j]) (hi : ops[i]? = some oi) (hwi : Region.wanted oi (yielded ops a.tmps) = true) (hj : ops[j]? = some oj) (hwj : Region.wanted oj (yielded ops a.tmps) = true)
    (h1 : oi.wp P a w (fun a' w' => S w' ∧ wpAnyH P md ops (NoPanic Q) S fuel (listed.setIfInBounds i true) a' w') (NoPanic Q))
    (h2 : oj.wp P a w (fun a' w' => S w' ∧ wpAnyH P md ops (NoPanic Q) S fuel (listed.setIfInBounds j true) a' w') (NoPanic Q)) : wpAnyH P md ops (NoPanic Q) S (fuel + 1) listed a w :=
  wpAnyH_all hr (by simp) fun k hk => by
    have hk' : k = i ∨ k = j := by simpa using hk
    rcases hk' with rfl | rfl
    · unfold wpOp
      rw [hi]
      simp only [hwi, if_true]
      exact .inl h1
    · unfold wpOp
      rw [hj]
      simp only [hwj, if_true]
      exact .inl h2
theorem rg_done {listed : Array Bool} {a : Act} {w : World} (hr : Region.ready md ops listed = []) (h : Q .normal a w) (n : Nat) : wpAnyH P md ops (NoPanic Q) S n listed a w :=
  wpAnyH_done hr (NoPanic.normal h) n
end

section
variable {P : Program} {o : Oper} {a : Act} {w : World} {next : Act → World → Prop} {Q : Exit → Act → World → Prop}
theorem op_ok {v : Value} {w' : World} (a' : Act) (h : (execOp a.eval o).run P w = .ok (.value v) w') (ha : a.put o.dst v = a') (hk : next a' w') : o.wp P a w next Q := by
  unfold Oper.wp
  rw [h, Oper.upon_value, ha]
  exact hk
theorem op_skip {w' : World} (a' : Act) (h : (execOp a.eval o).run P w = .ok .skip w') (ha : a.put o.dst undef = a') (hk : next a' w') : o.wp P a w next Q := by
  unfold Oper.wp
  rw [h, Oper.upon_skip, ha]
  exact hk
theorem op_call {f : FuncId} {args : Array Value} {v : Value} {R : World → Prop} (a' : Act) (h : (execOp a.eval o).run P w = .ok (.enter f args) w) (hc : Calls P f args w fun e w' => e = .returned v ∧ R w') (ha : a.put o.dst v = a') (hk : ∀ w', R w' → next a' w') : o.wp P a w next Q := by
  unfold Oper.wp
  rw [h, Oper.upon_enter]
  refine hc.mono ?_
  rintro e w' ⟨rfl, hR⟩
  show next (a.put o.dst v) w'
  rw [ha]
  exact hk w' hR
end

section
variable {P : Program}
/-- A load of one cell. -/
theorem ex_load1 (a : Act) (o : Oper) (ty : TypeId) (x : Operand) (ho : o.op = .load ty x) (p : Addr) (hx : a.eval x = .pointer (some p)) (W : World) (hag : (isAgg ty).run P W = .ok false W) (v : Value) (hc : W.cell? p = some v) :
    (execOp a.eval o).run P W = .ok (.value v) W := by
  unfold execOp
  simp [ho, hx, Instr.loadAt, Instr.sureAddr, loadVar, hag, hc, Result.andThen]
/-- A store of one cell. -/
theorem ex_store1 (a : Act) (o : Oper) (ty : TypeId) (x y : Operand) (ho : o.op = .store ty x y) (p : Addr) (v : Value) (hx : a.eval x = .pointer (some p)) (hy : a.eval y = v) (W : World) (hsz : (sizeOf ty).run P W = .ok 1 W) (hv : v.cells = #[v]) (h1 : v.oneCell' = true)
    (old : Value) (hc : W.cell? p = some old) (hf : W.frozen? p = false) : (execOp a.eval o).run P W = .ok .skip (W.setCell p v) := by
  unfold execOp
  simp [ho, hx, hy, Instr.storeAt, Instr.sureAddr, storeVar, hsz, hv, Result.andThen, storeCells, Addr.add]
  rw [run_store P W p _ _ h1]
  simp [hc, hf]
theorem ex_loadRow (a : Act) (o : Oper) (ty : TypeId) (x : Operand) (ho : o.op = .load ty x) (b k : Nat) (hx : a.eval x = .pointer (some ⟨b, k, none⟩)) (cs : List Value) (d : TypeDesc) (hu : P.underlying ty = some d) (hd : d.isRow = true) (hi : (P.info? ty).map (·.size) = some cs.length) (W : World) (hc : W.rangeAt b k cs) :
    (execOp a.eval o).run P W = .ok (.value (.agg cs.toArray)) W := by
  unfold execOp
  simp only [ho, hx, Instr.loadAt, Instr.sureAddr, Sem.run_bind, Sem.run_pure, Result.andThen_ok, run_loadVar_mid W b k ty cs d hc hu hd hi]
theorem ex_build (a : Act) (o : Oper) (t : TypeId) (parts : Array (Nat × Operand)) (ho : o.op = .build t parts) (vals : List (Nat × Value)) (cells : Array Value) (hv : (parts.map fun (i, x) => (i, a.eval x)).toList = vals) (hf : P.built t vals = some cells) (W : World) :
    (execOp a.eval o).run P W = .ok (.value (.agg cells)) W := by
  subst hv
  unfold execOp
  simp only [ho, Sem.run_bind, run_build W t _ cells hf, Result.andThen_ok]
  rfl
theorem ex_storeRow (a : Act) (o : Oper) (ty : TypeId) (x y : Operand) (ho : o.op = .store ty x y) (b k : Nat) (cells : Array Value) (hx : a.eval x = .pointer (some ⟨b, k, none⟩)) (hy : a.eval y = .agg cells) (W : World)
    (ht : W.there b k cells.size) (hi : (P.info? ty).map (·.size) = some cells.size) (h1 : cells.all (·.oneCell') = true) : (execOp a.eval o).run P W = .ok .skip (W.setCells b k cells.toList) := by
  unfold execOp
  simp only [ho, hx, hy, Instr.storeAt, Instr.sureAddr, Sem.run_bind, Sem.run_pure, Result.andThen_ok, run_storeVar_mid W b k ty cells ht hi h1]
/-- A store over a whole block. -/
theorem ex_storeAll (a : Act) (o : Oper) (ty : TypeId) (x y : Operand) (ho : o.op = .store ty x y) (g : Nat) (cells : Array Value) (hx : a.eval x = .pointer (some ⟨g, 0, none⟩)) (hy : a.eval y = .agg cells) (W : World)
    (t : TypeId) (old : Array Value) (hg : W.heap[g]? = some (.cells old t (0, 0))) (hi : (P.info? ty).map (·.size) = some cells.size) (hs : old.size = cells.size) (h1 : cells.all (·.oneCell') = true) : (execOp a.eval o).run P W = .ok .skip (W.setRow g cells) := by
  unfold execOp
  simp only [ho, hx, hy, Instr.storeAt, Instr.sureAddr, Sem.run_bind, Sem.run_pure, Result.andThen_ok, run_storeVar_row W g t ty old cells hg hi hs h1]
/-- A store over a whole block; the world behind it is a letter. -/
theorem op_storeAll {a : Act} {o : Oper} {next : Act → World → Prop} {Q : Exit → Act → World → Prop} {W : World} {ty : TypeId} {x y : Operand} (ho : o.op = .store ty x y) (hd : o.dst = none) (g : Nat) (cells : Array Value) (hx : a.eval x = .pointer (some ⟨g, 0, none⟩)) (hy : a.eval y = .agg cells)
    {t : TypeId} {old : Array Value} (hg : W.heap[g]? = some (.cells old t (0, 0))) (hi : (P.info? ty).map (·.size) = some cells.size) (hs : old.size = cells.size) (h1 : cells.all (·.oneCell') = true) (hk : ∀ W', W' = W.setRow g cells → next a W') : o.wp P a W next Q := by
  refine op_skip (w' := W.setRow g cells) a (ex_storeAll a o ty x y ho g cells hx hy W t old hg hi hs h1) ?_ (hk _ rfl)
  rw [hd]
  rfl
/-- A store of one cell; the world behind it is a letter. -/
theorem op_store1 {a : Act} {o : Oper} {next : Act → World → Prop} {Q : Exit → Act → World → Prop} {W : World} {ty : TypeId} {x y : Operand} {v : Value} (ho : o.op = .store ty x y) (hd : o.dst = none) (p : Addr) (hx : a.eval x = .pointer (some p)) (hy : a.eval y = v)
    (hsz : (sizeOf ty).run P W = .ok 1 W) (hv : v.cells = #[v]) (h1 : v.oneCell' = true) {old : Value} (hc : W.cell? p = some old) (hf : W.frozen? p = false) (hk : ∀ W', W' = W.setCell p v → next a W') : o.wp P a W next Q := by
  refine op_skip (w' := W.setCell p v) a (ex_store1 a o ty x y ho p v hx hy W hsz hv h1 old hc hf) ?_ (hk _ rfl)
  rw [hd]
  rfl
/-- An operation of a region that doesn't draw, by its run. -/
theorem wpList_ok {ops : Array Oper} {rest : List Oper} {a : Act} {o : Oper} {Q : Exit → Act → World → Prop} {w w' : World} {v : Value} (hgd : o.guard = none) (h : (execOp a.eval o).run P w = .ok (.value v) w') (hk : wpList P ops Q rest (a.put o.dst v) w') : wpList P ops Q (o :: rest) a w :=
  wpList_plain hgd fun _ hK => op_ok _ h rfl (hK _ _ hk)
end
theorem results_two {P : Program} {fn : Func} {p q : Tmp} {ty : TypeId} (h : fn.results = #[.cell p ty, .tmp q]) (tmps : Array Value) (w : World) (g : Nat) (t : TypeId) (cs : Array Value) (fr : Nat × Nat) (d : TypeDesc)
    (hp : tmps.getD p undef = .pointer (some ⟨g, 0, none⟩)) (hg : w.heap[g]? = some (.cells cs t fr))
    (hu : P.underlying ty = some d) (hd : (match d with | .struct _ | .array _ _ => true | _ => false) = true) (hi : (P.info? ty).map (·.size) = some cs.size) :
    (results fn tmps).run P w = .ok (.tuple #[.agg cs, tmps.getD q undef]) w := by
  have hp' : tmps[p]?.getD undef = .pointer (some ⟨g, 0, none⟩) := by simpa using hp
  simp [results, h, hp', asAddr, run_loadVar_row w g t ty cs fr d hg hu hd hi]
section
open Go.RowKit
variable {P : Program} {o : Oper} {a : Act} {K : Act → World → Prop} {Q : Exit → Act → World → Prop}
theorem op_append_ints {w0 W : World} (base : Nat) (s x : Operand) (t e : TypeId) (k : IntKind) (bytes : Nat)
    (ho : o.op = .call { callee := .builtin .append, args := #[s, x], argTypes := #[t, t] })
    (ht : P.underlying t = some (.slice e)) (hinfo : (P.info? e).map (fun i => (i.zero, i.size, i.bytes)) = some (some (.int k 0), 1, bytes))
    (v : Value) (xs ys : List Int) (B : Nat) (A : Option Addr) (m c : Nat) (hs : a.eval s = v) (hx : a.eval x = .slice A m c) (hm : ys.length = m)
    (HO : OwnI W base e k v xs) (HR : RdI W B k A ys) (HB : Below base w0 W) (hbase : base ≤ W.heap.size) (hb0 : 0 < bytes) (hl : (xs.length + m) * bytes ≤ 140737488355328)
    (h : ∀ v1 w1, OwnI w1 base e k v1 (xs ++ ys) → Below base w0 w1 → W.grownBy w1 v.ownBlock → (v1.ownBlock = v.ownBlock ∨ ∃ b, v1.ownBlock = some b ∧ W.heap.size ≤ b) → K (a.put o.dst v1) w1) :
    Oper.wp P o a W K Q := by
  obtain ⟨i0, hi, hzz⟩ := Option.map_eq_some_iff.1 hinfo
  simp only [Prod.mk.injEq] at hzz
  obtain ⟨hz0, hz1, hz2⟩ := hzz
  subst hm
  have hlen : xs.length + ys.length ≤ 140737488355328 := Nat.le_trans (Nat.le_mul_of_pos_right _ hb0) hl
  refine wp_append_any W s x t ho base e i0 (.int k 0) 1 bytes ht hi hz0 hz1 hz2 rfl (by omega) v xs.length (ints k xs) hs HO.out B A ys.length c (ints k ys) hx HR.out (ints_one k ys) (by simp only [maxLen]; omega) hl hbase ?_
  intro v1 w1 hown hg hat
  refine h v1 w1 ⟨by rw [List.length_append]; simpa [ints] using hown⟩ (HB.grown hg hbase (own_base HO.out)) hg ?_
  rcases hat with hat | hat
  · exact .inl hat
  · exact .inr ⟨_, hat, Nat.le_refl _⟩
end
end Go.Proofs.YthamnnhpagllcaaDoor
