/- Code, calls, loops, deferred calls and rounds: the evaluator's answer is the machine's; condition: the same of regions that draw their order. -/
import Derived.Test.YtcplpfnieabelaaGreatDoorAmC
import Derived.Orders
namespace Go.AM
variable {P : Program} {ι : Inj} {h : AHeap} {w : World}

/-! Frames of the machine. -/
def fon (b : Frame) (tm : Array Value) (ds : List Deferred) (k : List Item) : Frame :=
  { fn := b.fn, tmps := tm, todo := k, defers := ds, mode := .run, kind := b.kind, roundOf := b.roundOf }

def putD (tm : Array Value) (d : Option Tmp) (v : Value) : Array Value := match d with
  | some d => tm.setIfInBounds d v
  | none => tm

section moves
variable {b : Frame} {tm : Array Value} {ds : List Deferred} {k : List Item} {cs : List Frame}

theorem on_skip : step P (lone (fon b tm ds (.code .skip :: k)) cs w) = .next (lone (fon b tm ds k) cs w) :=
  step_lone_go (by simp [stepG, stepG.exec, fon])
theorem on_label {l : Nat} : step P (lone (fon b tm ds (.code (.label l) :: k)) cs w) = .next (lone (fon b tm ds k) cs w) :=
  step_lone_go (by simp [stepG, stepG.exec, fon])
theorem on_inBlock {id : Nat} : step P (lone (fon b tm ds (.inBlock id :: k)) cs w) = .next (lone (fon b tm ds k) cs w) :=
  step_lone_go (by simp [stepG, stepG.exec, fon])
theorem on_inScope {c : Code} : step P (lone (fon b tm ds (.inScope c :: k)) cs w) = .next (lone (fon b tm ds k) cs w) :=
  step_lone_go (by simp [stepG, stepG.exec, fon])
theorem on_seq {x y : Code} : step P (lone (fon b tm ds (.code (.seq x y) :: k)) cs w) = .next (lone (fon b tm ds (.code x :: .code y :: k)) cs w) :=
  step_lone_go (by simp [stepG, stepG.exec, fon])
theorem on_cond {c : Operand} {x y : Code} {t : Bool} (h : (fon b tm ds (.code (.cond c x y) :: k)).eval c = .bool t) :
    step P (lone (fon b tm ds (.code (.cond c x y) :: k)) cs w) = .next (lone (fon b tm ds (.code (if t then x else y) :: k)) cs w) :=
  step_lone_go (by
    simp only [fon] at h
    simp [stepG, stepG.exec, fon, h])
theorem on_block {id : Nat} {c : Code} : step P (lone (fon b tm ds (.code (.block id c) :: k)) cs w) = .next (lone (fon b tm ds (.code c :: .inBlock id :: k)) cs w) :=
  step_lone_go (by simp [stepG, stepG.exec, fon])
theorem on_loop {c : Code} : step P (lone (fon b tm ds (.code (.loop c) :: k)) cs w) = .next (lone (fon b tm ds (.code c :: .inLoop c :: k)) cs w) :=
  step_lone_go (by simp [stepG, stepG.exec, fon])
theorem on_inLoop {c : Code} : step P (lone (fon b tm ds (.inLoop c :: k)) cs w) = .next (lone (fon b tm ds (.code c :: .inLoop c :: k)) cs w) :=
  step_lone_go (by simp [stepG, stepG.exec, fon])
theorem on_scope {c : Code} : step P (lone (fon b tm ds (.code (.scope c) :: k)) cs w) = .next (lone (fon b tm ds (.code c :: .inScope c :: k)) cs w) :=
  step_lone_go (by simp [stepG, stepG.exec, fon])
theorem on_exit {id : Nat} {k' : List Item} (h : exitTo id k = some k') : step P (lone (fon b tm ds (.code (.exit id) :: k)) cs w) = .next (lone (fon b tm ds k') cs w) :=
  step_lone_go (by simp [stepG, stepG.exec, fon, h])
theorem on_goto {l : Nat} {k' : List Item} (h : gotoIn l k = some k') : step P (lone (fon b tm ds (.code (.goto l) :: k)) cs w) = .next (lone (fon b tm ds k') cs w) :=
  step_lone_go (by simp [stepG, stepG.exec, fon, h])
theorem on_region {id : Nat} {ops : Array Oper} : step P (lone (fon b tm ds (.code (.region id ops false) :: k)) cs w) = .next (lone (fon b tm ds (.inRegion ops (List.range ops.size) :: k)) cs w) :=
  step_lone_go (by simp [stepG, stepG.exec, fon])
theorem on_draw {id : Nat} {ops : Array Oper} :
    step P (lone (fon b tm ds (.code (.region id ops true) :: k)) cs w) =
      .next (lone (fon b tm ds (.inRegion ops (Region.schedule (P.follows .mixedOrders) ops (w.tape w.drawn (.order b.fn id))) :: k)) cs { w with drawn := w.drawn + 1 }) :=
  step_lone_go (by simp [stepG, stepG.exec, fon, choose, Sem.run, Question.forced, Question.cut])
theorem on_done {ops : Array Oper} : step P (lone (fon b tm ds (.inRegion ops [] :: k)) cs w) = .next (lone (fon b tm ds k) cs w) :=
  step_lone_go (by simp [stepG, stepG.exec, fon])

theorem fon_finish {ops : Array Oper} {i : Nat} {rest : List Nat} {o : Oper} (ho : ops[i]? = some o) (v : Value) :
    (fon b tm ds (.inRegion ops (i :: rest) :: k)).finish v = fon b (putD tm o.dst v) ds (.inRegion ops rest :: k) := by
  cases hd : o.dst <;> simp [Frame.finish, fon, putD, ho, hd]

theorem on_unwanted {ops : Array Oper} {i : Nat} {rest : List Nat} {o : Oper} (ho : ops[i]? = some o) (hw : Region.wanted o (yielded ops tm) = false) :
    step P (lone (fon b tm ds (.inRegion ops (i :: rest) :: k)) cs w) = .next (lone (fon b (putD tm o.dst Go.undef) ds (.inRegion ops rest :: k)) cs w) := by
  rw [← fon_finish ho]
  exact step_lone_go (by simp [stepG, stepG.exec, fon, ho, hw])

theorem stepG_on {ops : Array Oper} {i : Nat} {rest : List Nat} {o : Oper} (ho : ops[i]? = some o) (hw : Region.wanted o (yielded ops tm) = true) (hr : b.roundOf = none ∨ ∀ c, o.op ≠ .defer c) :
    stepG P true { frame := fon b tm ds (.inRegion ops (i :: rest) :: k), callers := cs, status := .running, dying := none } w =
      stepG.apply P true (fon b tm ds (.inRegion ops (i :: rest) :: k)) cs none (execOp (fon b tm ds (.inRegion ops (i :: rest) :: k)).eval o) w := by
  have e1 : stepG P true { frame := fon b tm ds (.inRegion ops (i :: rest) :: k), callers := cs, status := .running, dying := none } w =
      stepG.oper P true (fon b tm ds (.inRegion ops (i :: rest) :: k)) cs none w := by
    simp [stepG, stepG.exec, fon, ho, hw]
  have e2 : (fon b tm ds (.inRegion ops (i :: rest) :: k)).oper? = some o := by simp [Frame.oper?, fon, ho]
  rw [e1]
  unfold stepG.oper
  rw [e2]
  simp only []
  split
  · rename_i l c hl hc
    rcases hr with hr | hr
    · have : b.roundOf = some l := hl
      rw [hr] at this; cases this
    · exact absurd hc (hr c)
  · rfl

theorem on_value {ops : Array Oper} {i : Nat} {rest : List Nat} {o : Oper} {v : Value} {u : World} (ho : ops[i]? = some o) (hw : Region.wanted o (yielded ops tm) = true) (hr : b.roundOf = none ∨ ∀ c, o.op ≠ .defer c)
    (hx : (execOp (fon b tm ds (.inRegion ops (i :: rest) :: k)).eval o).run P w = .ok (.value v) u) :
    step P (lone (fon b tm ds (.inRegion ops (i :: rest) :: k)) cs w) = .next (lone (fon b (putD tm o.dst v) ds (.inRegion ops rest :: k)) cs u) := by
  rw [← fon_finish ho]
  exact step_lone_go (by rw [stepG_on ho hw hr]; simp [stepG.apply, hx])

theorem on_skipped {ops : Array Oper} {i : Nat} {rest : List Nat} {o : Oper} {u : World} (ho : ops[i]? = some o) (hw : Region.wanted o (yielded ops tm) = true) (hr : b.roundOf = none ∨ ∀ c, o.op ≠ .defer c)
    (hx : (execOp (fon b tm ds (.inRegion ops (i :: rest) :: k)).eval o).run P w = .ok .skip u) :
    step P (lone (fon b tm ds (.inRegion ops (i :: rest) :: k)) cs w) = .next (lone (fon b (putD tm o.dst Go.undef) ds (.inRegion ops rest :: k)) cs u) := by
  rw [← fon_finish ho]
  exact step_lone_go (by rw [stepG_on ho hw hr]; simp [stepG.apply, hx])

theorem on_defer {ops : Array Oper} {i : Nat} {rest : List Nat} {o : Oper} {c : Call} {d : Deferred} (ho : ops[i]? = some o) (hw : Region.wanted o (yielded ops tm) = true) (hr : b.roundOf = none) (hc : o.op = .defer c)
    (hx : (resolve (fon b tm ds (.inRegion ops (i :: rest) :: k)).eval c o.type).run P w = .ok d w) :
    step P (lone (fon b tm ds (.inRegion ops (i :: rest) :: k)) cs w) = .next (lone (fon b (putD tm o.dst Go.undef) (d :: ds) (.inRegion ops rest :: k)) cs w) := by
  have h1 : (execOp (fon b tm ds (.inRegion ops (i :: rest) :: k)).eval o).run P w = .ok (.defer d) w := by
    simp only [execOp, hc, Sem.run_bind, hx, Result.andThen_ok, Sem.run_pure]
  have h2 : ({ fon b tm ds (.inRegion ops (i :: rest) :: k) with defers := d :: ds } : Frame) = fon b tm (d :: ds) (.inRegion ops (i :: rest) :: k) := rfl
  rw [← fon_finish ho]
  refine step_lone_go ?_
  rw [stepG_on ho hw (.inl hr)]
  simp only [stepG.apply, Sem.runT_eq, h1, GStep.bare_after]
  rfl

theorem on_panic {ops : Array Oper} {i : Nat} {rest : List Nat} {o : Oper} {v : Value} {u : World} (ho : ops[i]? = some o) (hw : Region.wanted o (yielded ops tm) = true) (hr : b.roundOf = none ∨ ∀ c, o.op ≠ .defer c)
    (hx : (execOp (fon b tm ds (.inRegion ops (i :: rest) :: k)).eval o).run P w = .halt (.panic v) u) :
    step P (lone (fon b tm ds (.inRegion ops (i :: rest) :: k)) cs w) =
      .next (lone { fon b tm ds (.inRegion ops (i :: rest) :: k) with mode := .panicking [{ v, recovered := false }] } cs u) := by
  refine step_lone_go ?_
  rw [stepG_on ho hw hr]
  simp only [stepG.apply, Sem.runT_eq, hx, GStep.bare_after]
  rfl

theorem on_enter {ops : Array Oper} {i : Nat} {rest : List Nat} {o : Oper} {f : FuncId} {args : Array Value} {u : World} (ho : ops[i]? = some o) (hw : Region.wanted o (yielded ops tm) = true) (hr : b.roundOf = none ∨ ∀ c, o.op ≠ .defer c)
    (hx : (execOp (fon b tm ds (.inRegion ops (i :: rest) :: k)).eval o).run P w = .ok (.enter f args) u) :
    step P (lone (fon b tm ds (.inRegion ops (i :: rest) :: k)) cs w) = .next (lone (Frame.enter P f args .normal) (fon b tm ds (.inRegion ops (i :: rest) :: k) :: cs) u) := by
  refine step_lone_go ?_
  rw [stepG_on ho hw hr]
  simp only [stepG.apply, Sem.runT_eq, hx, GStep.bare_after]
  rfl

theorem on_round {ops : Array Oper} {i : Nat} {rest : List Nat} {o : Oper} {l : Nat} {f : FuncId} {t : Array Value} {a c : Code} {u : World} (ho : ops[i]? = some o) (hw : Region.wanted o (yielded ops tm) = true) (hr : b.roundOf = none ∨ ∀ c, o.op ≠ .defer c)
    (hx : (execOp (fon b tm ds (.inRegion ops (i :: rest) :: k)).eval o).run P w = .ok (.round l f t a c) u) :
    step P (lone (fon b tm ds (.inRegion ops (i :: rest) :: k)) cs w) = .next (lone (Frame.round l f t a c .normal) (fon b tm ds (.inRegion ops (i :: rest) :: k) :: cs) u) := by
  refine step_lone_go ?_
  rw [stepG_on ho hw hr]
  simp only [stepG.apply, Sem.runT_eq, hx, GStep.bare_after]
  rfl

theorem on_recover {ops : Array Oper} {i : Nat} {rest : List Nat} {o : Oper} (ho : ops[i]? = some o) (hw : Region.wanted o (yielded ops tm) = true) (hr : b.roundOf = none)
    (hx : (execOp (fon b tm ds (.inRegion ops (i :: rest) :: k)).eval o).run P w = .ok .recover w) :
    step P (lone (fon b tm ds (.inRegion ops (i :: rest) :: k)) cs w) = match tryRecover (fon b tm ds (.inRegion ops (i :: rest) :: k)) cs with
      | some (v, cs') => .next (lone (fon b (putD tm o.dst v) ds (.inRegion ops rest :: k)) cs' w)
      | none => .next (lone (fon b (putD tm o.dst .nilIface) ds (.inRegion ops rest :: k)) cs w) := by
  have hr' : (fon b tm ds (.inRegion ops (i :: rest) :: k)).roundOf = none := hr
  cases ht : tryRecover (fon b tm ds (.inRegion ops (i :: rest) :: k)) cs with
  | none =>
    simp only []
    rw [← fon_finish ho]
    exact step_lone_go (by rw [stepG_on ho hw (.inl hr)]; simp [stepG.apply, hx, hr', ht])
  | some x =>
    obtain ⟨v, cs'⟩ := x
    simp only []
    rw [← fon_finish ho]
    exact step_lone_go (by rw [stepG_on ho hw (.inl hr)]; simp [stepG.apply, hx, hr', ht])

end moves
end Go.AM

namespace Go.AM
variable {P : Program} {ι : Inj} {h : AHeap} {w : World}

/-! Only the slots at which an operation looks. -/
noncomputable def only (l : List Tmp) (r : Tr AV) : Tr AV := l.foldr (fun t acc => Tr.put (r.get t) acc t) .nil

theorem get_only (l : List Tmp) (r : Tr AV) (t : Nat) : (only l r).get t = if t ∈ l then r.get t else none := by
  induction l with
  | nil => simp [only, Tr.get_nil]
  | cons a l ih =>
    change (Tr.put (r.get a) (only l r) a).get t = _
    rw [Tr.get_put, ih]
    by_cases e : t = a
    · subst e; simp
    · simp [e]

theorem mem_tmpsOf {t : Tmp} : ∀ {l : List Operand}, .tmp t ∈ l → t ∈ tmpsOf l
  | [], h => by cases h
  | x :: l, h => by
    cases h with
    | head => exact List.mem_cons_self
    | tail _ h =>
      have := mem_tmpsOf h
      cases x <;> simp [tmpsOf, this]

/-- Two states of the slots that agree at these operands. -/
def Alike (P : Program) (r r' : Tr AV) (x : Operand) : Prop := aeval P r' x = aeval P r x

theorem alike_only {r : Tr AV} {l : List Operand} {x : Operand} (hx : x ∈ l) : Alike P r (only (tmpsOf l) r) x := by
  cases x with
  | tmp t =>
    change (only (tmpsOf l) r).get t = r.get t
    rw [get_only, if_pos (mem_tmpsOf hx)]
  | _ => rfl

theorem aevals_alike {r r' : Tr AV} : ∀ {l : List Operand}, (∀ x ∈ l, Alike P r r' x) → aevals P r' l = aevals P r l
  | [], _ => rfl
  | x :: l, h => by
    have h1 : aeval P r' x = aeval P r x := h x List.mem_cons_self
    have h2 := aevals_alike (l := l) (fun y hy => h y (List.mem_cons_of_mem _ hy))
    simp only [aevals, h1, h2]

theorem aparts_alike {r r' : Tr AV} : ∀ {l : List (Nat × Operand)}, (∀ x ∈ l.map (·.2), Alike P r r' x) → aparts P r' l = aparts P r l
  | [], _ => rfl
  | (i, x) :: l, h => by
    have h1 : aeval P r' x = aeval P r x := h x (by simp)
    have h2 := aparts_alike (l := l) (fun y hy => h y (by simp only [List.map_cons]; exact List.mem_cons_of_mem _ hy))
    simp only [aparts, h1, h2]

theorem aopt_alike {r r' : Tr AV} {x : Option Operand} (h : ∀ y ∈ x, Alike P r r' y) : aopt P r' x = aopt P r x := by
  cases x with
  | none => rfl
  | some y =>
    have h1 : aeval P r' y = aeval P r y := h y rfl
    simp only [aopt, h1]

theorem aexec_alike {r r' : Tr AV} (o : Op) (hx : ∀ x ∈ o.operands.toList, Alike P r r' x) : aexec o P r' h = aexec o P r h := by
  have ev : ∀ x ∈ o.operands.toList, aeval P r' x = aeval P r x := hx
  cases o <;> simp only [Op.operands] at ev hx
  case move x => change oval h (aeval P r' x) = oval h (aeval P r x); rw [ev x (by simp)]
  case assign x => change oval h (aeval P r' x) = oval h (aeval P r x); rw [ev x (by simp)]
  case pick c a b =>
    change xPick P r' h a b (aeval P r' c) = xPick P r h a b (aeval P r c)
    unfold xPick
    rw [ev c (by simp), ev a (by simp), ev b (by simp)]
  case alloc => rfl
  case box t x => change xVar h (aeval P r' x) = xVar h (aeval P r x); rw [ev x (by simp)]
  case build t ps =>
    change xBuild P h t (aparts P r' ps.toList) = xBuild P h t (aparts P r ps.toList)
    rw [aparts_alike (fun x hh => hx x (by simpa using hh))]
  case buildSlice t n ps =>
    change xBuildSlice P h t n (aparts P r' ps.toList) = xBuildSlice P h t n (aparts P r ps.toList)
    rw [aparts_alike (fun x hh => hx x (by simpa using hh))]
  case load t a => change x1 _ (aeval P r' a) = x1 _ (aeval P r a); rw [ev a (by simp)]
  case store t a v => change x2 _ (aeval P r' v) (aeval P r' a) = x2 _ (aeval P r v) (aeval P r a); rw [ev a (by simp), ev v (by simp)]
  case ready => rfl
  case waits => rfl
  case nilCheck x => change x1 _ (aeval P r' x) = x1 _ (aeval P r x); rw [ev x (by simp)]
  case binOp op t x y t' => change x2 _ (aeval P r' y) (aeval P r' x) = x2 _ (aeval P r y) (aeval P r x); rw [ev x (by simp), ev y (by simp)]
  case unOp op t x => change x1 _ (aeval P r' x) = x1 _ (aeval P r x); rw [ev x (by simp)]
  case convert s d x => change x1 _ (aeval P r' x) = x1 _ (aeval P r x); rw [ev x (by simp)]
  case makeInterface t x => change x1 _ (aeval P r' x) = x1 _ (aeval P r x); rw [ev x (by simp)]
  case makeFunc fn first captured =>
    change xMakeFunc P r' h fn first captured = xMakeFunc P r h fn first captured
    unfold xMakeFunc
    rw [aevals_alike (l := first.toList) (fun x hh => hx x (by simp at hh ⊢; exact .inl hh)), aevals_alike (l := captured.toList) (fun x hh => hx x (by simp at hh ⊢; exact .inr hh))]
  case makeMap t x =>
    change xMap P h t (aopt P r' x) = xMap P h t (aopt P r x)
    rw [aopt_alike (fun y hy => hx y (by cases x <;> simp_all))]
  case makeSlice t a v => change x2 _ (aeval P r' v) (aeval P r' a) = x2 _ (aeval P r v) (aeval P r a); rw [ev a (by simp), ev v (by simp)]
  case slice t x lo hi mx =>
    change xSlice P h t (aeval P r' x) (aopt P r' lo) (aopt P r' hi) (aopt P r' mx) = xSlice P h t (aeval P r x) (aopt P r lo) (aopt P r hi) (aopt P r mx)
    rw [ev x (by simp), aopt_alike (x := lo) (fun y hy => hx y (by cases lo <;> simp_all)), aopt_alike (x := hi) (fun y hy => hx y (by cases hi <;> simp_all)),
      aopt_alike (x := mx) (fun y hy => hx y (by cases mx <;> simp_all))]
  case fieldAddr t x f => change x1 _ (aeval P r' x) = x1 _ (aeval P r x); rw [ev x (by simp)]
  case field t x f => change x1 _ (aeval P r' x) = x1 _ (aeval P r x); rw [ev x (by simp)]
  case indexAddr t x i => change x2 _ (aeval P r' i) (aeval P r' x) = x2 _ (aeval P r i) (aeval P r x); rw [ev x (by simp), ev i (by simp)]
  case index t x i => change x2 _ (aeval P r' i) (aeval P r' x) = x2 _ (aeval P r i) (aeval P r x); rw [ev x (by simp), ev i (by simp)]
  case lookup t x i ok => change x2 _ (aeval P r' i) (aeval P r' x) = x2 _ (aeval P r i) (aeval P r x); rw [ev x (by simp), ev i (by simp)]
  case mapUpdate t m k v =>
    change x3 _ (aeval P r' k) (aeval P r' v) (aeval P r' m) = x3 _ (aeval P r k) (aeval P r v) (aeval P r m)
    rw [ev m (by simp), ev k (by simp), ev v (by simp)]
  case insert t m k v =>
    change x3 _ (aeval P r' k) (aeval P r' v) (aeval P r' m) = x3 _ (aeval P r k) (aeval P r v) (aeval P r m)
    rw [ev m (by simp), ev k (by simp), ev v (by simp)]
  case typeAssert x xt a ok => change x1 _ (aeval P r' x) = x1 _ (aeval P r x); rw [ev x (by simp)]
  case extract t i => change x1 _ (aeval P r' t) = x1 _ (aeval P r t); rw [ev t (by simp)]
  case range t x => change x1 _ (aeval P r' x) = x1 _ (aeval P r x); rw [ev x (by simp)]
  case next x b =>
    cases b with
    | false => rfl
    | true => change x1 _ (aeval P r' x) = x1 _ (aeval P r x); rw [ev x (by simp)]
  case panic x => change x1 _ (aeval P r' x) = x1 _ (aeval P r x); rw [ev x (by simp)]
  case call c =>
    change xCall P r' h c (aevals P r' c.args.toList) = xCall P r h c (aevals P r c.args.toList)
    rw [aevals_alike (l := c.args.toList) (fun x hh => hx x (by simp [Call.operands] at hh ⊢; exact .inr hh))]
    unfold xCall
    cases aevals P r c.args.toList with
    | none => rfl
    | some args =>
      simp only []
      cases hc : c.callee with
      | value f => simp only []; rw [ev f (by simp [Call.operands, hc])]
      | builtin b => rfl
      | invoke a b => rfl
  case defer c =>
    change xDefer P r' c (aevals P r' c.args.toList) = xDefer P r c (aevals P r c.args.toList)
    rw [aevals_alike (l := c.args.toList) (fun x hh => hx x (by simp [Call.operands] at hh ⊢; exact .inr hh))]
    unfold xDefer
    cases aevals P r c.args.toList with
    | none => rfl
    | some args =>
      simp only []
      cases hc : c.callee with
      | value f => simp only []; rw [ev f (by simp [Call.operands, hc])]
      | builtin b => rfl
      | invoke a b => rfl
  all_goals rfl

noncomputable def seenBy (o : Oper) (r : Tr AV) : Tr AV := only (tmpsOf o.op.operands.toList) r

theorem aexec_seen {r : Tr AV} (o : Oper) : aexec o.op P (seenBy o r) h = aexec o.op P r h := aexec_alike o.op fun _ hx => alike_only hx

theorem Operands.seen {r : Tr AV} {ρ : Operand → Value} (o : Oper) (hρ : Operands P ι r ρ) : Operands P ι (seenBy o r) ρ := by
  intro x a ha
  cases x with
  | tmp t =>
    have ha' : (seenBy o r).get t = some a := ha
    rw [seenBy, get_only] at ha'
    split at ha'
    · exact hρ (.tmp t) a ha'
    · cases ha'
  | const v => exact hρ (.const v) a ha
  | global g => exact hρ (.global g) a ha
  | func f => exact hρ (.func f) a ha

/-- The operation's outcome, from the slots at which it looks. -/
theorem aexec_sound' {r : Tr AV} {ρ : Operand → Value} (o : Oper) (hρ : Operands P ι (seenBy o r) ρ) (hh : HR ι h w) : OutR P ι ρ o h w (aexec o.op P r h) := by
  rw [← aexec_seen o]
  exact aexec_sound o hρ hh

end Go.AM

namespace Go.AM
variable {P : Program} {ι : Inj} {h : AHeap} {w : World}

/-! What a frame may recover. -/
def entry (v : Value) : PanicEntry := { v, recovered := false }

def PanInv (ι : Inj) (kind : CallKind) (cs : List Frame) : APan → Prop
  | .none => ∀ fr : Frame, fr.kind = kind → tryRecover fr cs = none
  | .live v => kind = .deferred ∧ ∃ c rest v' older, cs = c :: rest ∧ c.mode = .panicking (entry v' :: older) ∧ VR ι v v'
  | .recovered v => kind = .deferred ∧ ∃ c rest v' older, cs = c :: rest ∧ c.mode = .panicking (entry v' :: older) ∧ VR ι v v'

def turned : List Frame → List Frame
  | c :: rest => (match c.mode with
    | .panicking (e :: older) => { c with mode := .panicking ({ v := e.v, recovered := true } :: older) }
    | _ => c) :: rest
  | [] => []

def csAt (cs : List Frame) : APan → List Frame
  | .recovered _ => turned cs
  | _ => cs

theorem PanInv.mono {κ : Inj} {kind : CallKind} {cs : List Frame} (hle : ι.le κ) : ∀ {p : APan}, PanInv ι kind cs p → PanInv κ kind cs p
  | .none, h => h
  | .live _, ⟨h1, c, rest, v', older, h2, h3, h4⟩ => ⟨h1, c, rest, v', older, h2, h3, h4.mono hle⟩
  | .recovered _, ⟨h1, c, rest, v', older, h2, h3, h4⟩ => ⟨h1, c, rest, v', older, h2, h3, h4.mono hle⟩

theorem PanInv.normal {cs : List Frame} : ∀ {p : APan}, PanInv ι .normal cs p → p = .none
  | .none, _ => rfl
  | .live _, ⟨h, _⟩ => by cases h
  | .recovered _, ⟨h, _⟩ => by cases h

theorem panInv_normal (cs : List Frame) : PanInv ι .normal cs .none := fun fr hk => by
  unfold tryRecover; rw [hk]

/-- The rows of the package's variables. -/
def GR (P : Program) (ι : Inj) : Prop := ∀ g, g < P.globals.size → ∃ L, ι g = some L ∧ L.blk = g ∧ L.base = 0

theorem GR.mono {κ : Inj} (hle : ι.le κ) (h : GR P ι) : GR P κ := fun g hg => let ⟨L, h1, h2⟩ := h g hg; ⟨L, hle _ _ h1, h2⟩

theorem operands_of {regs : Tr AV} {fr : Frame} (hr : RR ι regs fr.tmps) (hg : GR P ι) : Operands P ι regs fr.eval := by
  intro x a ha
  cases x with
  | tmp t =>
    obtain ⟨v', h1, h2⟩ := hr t a ha
    have : fr.eval (.tmp t) = v' := by simp [Frame.eval, h1]
    rw [this]; exact h2
  | const v => exact VR.ofV ι v ha
  | global g =>
    change globalAt P g = some a at ha
    unfold globalAt at ha
    cases hb : Nat.ble (Nat.succ g) P.globals.size with
    | false => rw [hb] at ha; cases ha
    | true =>
      rw [hb] at ha; cases ha
      obtain ⟨L, h1, h2, h3⟩ := hg g (Nat.le_of_ble_eq_true hb)
      exact ⟨L, h1, by simp [Frame.eval, h2, h3]⟩
  | func f =>
    have : some (AV.fn f [] []) = some a := ha
    cases this
    exact ⟨[], [], rfl, rfl, rfl⟩

/-! How a part of the code leaves its frame. -/
structure Good (P : Program) (ι : Inj) (kind : CallKind) (cs : List Frame) (s : ASt) (tm : Array Value) (ds : List Deferred) (w : World) : Prop where
  regs : RR ι s.regs tm
  size : tm.size = s.size
  defs : DRs ι s.defs ds
  heap : HR ι s.h w
  pan : PanInv ι kind cs s.pan
  glob : GR P ι

def Lands (P : Program) (m : Machine) (b : Frame) (k : List Item) (cs : List Frame) (κ : Inj) (tm : Array Value) (ds : List Deferred) (w : World) : AEx → Prop
  | .norm => Steps P m (lone (fon b tm ds k) cs w)
  | .exit id => ∃ kk, exitTo id kk = exitTo id k ∧ Steps P m (lone (fon b tm ds (.code (.exit id) :: kk)) cs w)
  | .goto l => ∃ kk, gotoIn l kk = gotoIn l k ∧ Steps P m (lone (fon b tm ds (.code (.goto l) :: kk)) cs w)
  | .ret => ∃ kk, Steps P m (lone (fon b tm ds (.code .ret :: kk)) cs w)
  | .panic v => ∃ kk v', VR κ v v' ∧ Steps P m (lone { fon b tm ds kk with mode := .panicking [entry v'] } cs w)

def Ends (P : Program) (m : Machine) (b : Frame) (k : List Item) (cs : List Frame) (ι : Inj) (h : AHeap) (w : World) (r : Ans) : Prop :=
  ∃ κ tm ds u, Good P κ b.kind cs r.2.2 tm ds u ∧ Ext ι h w κ r.2.2.h u ∧ Lands P m b k (csAt cs r.2.2.pan) κ tm ds u r.1

theorem Lands.of_steps {m m' : Machine} {b : Frame} {k : List Item} {cs : List Frame} {κ : Inj} {tm : Array Value} {ds : List Deferred} (hs : Steps P m m') :
    ∀ {e : AEx}, Lands P m' b k cs κ tm ds w e → Lands P m b k cs κ tm ds w e
  | .norm, h => Steps.trans hs h
  | .exit _, ⟨kk, h1, h2⟩ => ⟨kk, h1, hs.trans h2⟩
  | .goto _, ⟨kk, h1, h2⟩ => ⟨kk, h1, hs.trans h2⟩
  | .ret, ⟨kk, h⟩ => ⟨kk, hs.trans h⟩
  | .panic _, ⟨kk, v', h1, h2⟩ => ⟨kk, v', h1, hs.trans h2⟩

theorem Ends.trans {m m' : Machine} {b : Frame} {k : List Item} {cs : List Frame} {κ : Inj} {g : AHeap} {u : World} {r : Ans} (hs : Steps P m m') (he : Ext ι h w κ g u) (hr : Ends P m' b k cs κ g u r) :
    Ends P m b k cs ι h w r :=
  let ⟨μ, tm, ds, v, h1, h2, h3⟩ := hr
  ⟨μ, tm, ds, v, h1, he.trans h2, h3.of_steps hs⟩

/-! What is asked of whoever evaluates. -/
def CallAns (P : Program) (m : Machine) (f : FuncId) (kind : CallKind) (cs : List Frame) (κ : Inj) (w : World) (v : AV) : AEx → Prop
  | .norm => ∃ fr v', fr.fn = f ∧ fr.kind = kind ∧ fr.mode = .returning ∧ fr.defers = [] ∧ VR κ v v' ∧ (∃ fn, P.funcs[fr.fn]? = some fn ∧ (results fn fr.tmps).run P w = .ok v' w) ∧ Steps P m (lone fr cs w)
  | .panic p => ∃ fr p', fr.fn = f ∧ fr.mode = .panicking [entry p'] ∧ fr.defers = [] ∧ (∃ fn, P.funcs[fr.fn]? = some fn) ∧ VR κ p p' ∧ Steps P m (lone fr cs w)
  | _ => False

def BackAns (P : Program) (m : Machine) (c : Frame) (rest : List Frame) (κ : Inj) (w : World) (v : AV) : AEx → Prop
  | .norm => ∃ v', VR κ v v' ∧ Steps P m (lone (c.finish v') rest w)
  | .panic p => ∃ p', VR κ p p' ∧ Steps P m (lone (c.raise [entry p']) rest w)
  | _ => False

def CallOk (P : Program) (f : FuncId) (args : List AV) (s : ASt) (r : Ans) : Prop :=
  (∃ fn, P.funcs[f]? = some fn ∧ fn.body.isSome = true ∧ (fn.name == "runtime.NumGoroutine") = false) ∧
  ∀ (kind : CallKind) (cs : List Frame) (args' : List Value) (ι : Inj) (w : World), VRs ι args args' → HR ι s.h w → GR P ι → PanInv ι kind cs s.pan →
    ∃ κ u, HR κ r.2.2.h u ∧ Ext ι s.h w κ r.2.2.h u ∧ PanInv κ kind cs r.2.2.pan ∧
      CallAns P (lone (Frame.enter P f args'.toArray kind) (csAt cs s.pan) w) f kind (csAt cs r.2.2.pan) κ u r.2.1 r.1

/-- The same of a call out of an operation: nothing is deferred, nothing can be recovered. -/
def NCallOk (P : Program) (f : FuncId) (args : List AV) (s : ASt) (r : Ans) : Prop :=
  (∃ fn, P.funcs[f]? = some fn ∧ fn.body.isSome = true ∧ (fn.name == "runtime.NumGoroutine") = false) ∧
  ∀ (cs : List Frame) (args' : List Value) (ι : Inj) (w : World), VRs ι args args' → HR ι s.h w → GR P ι → s.pan = .none →
    ∃ κ u, HR κ r.2.2.h u ∧ Ext ι s.h w κ r.2.2.h u ∧ CallAns P (lone (Frame.enter P f args'.toArray .normal) cs w) f .normal cs κ u r.2.1 r.1

theorem CallOk.normal {f : FuncId} {args : List AV} {s : ASt} {r : Ans} (h : CallOk P f args s r) : NCallOk P f args s r := by
  refine ⟨h.1, fun cs args' ι w hv hh hg hp => ?_⟩
  obtain ⟨κ, u, h1, h2, h3, h4⟩ := h.2 .normal cs args' ι w hv hh hg (by rw [hp]; exact panInv_normal _)
  rw [hp, h3.normal] at h4
  exact ⟨κ, u, h1, h2, h4⟩

def YieldOk (P : Program) (l : Nat) (args : List AV) (s : ASt) (r : Ans) : Prop :=
  ∀ (c : Frame) (rest : List Frame) (L : Loc) (args' : List Value) (ι : Inj) (w : World), ι l = some L → VRs ι args args' → HR ι s.h w → GR P ι →
    ∃ κ u, HR κ r.2.2.h u ∧ Ext ι s.h w κ r.2.2.h u ∧ ∃ f t a x, (Instr.yield L.blk args'.toArray).run P w = .ok (.round L.blk f t a x) w ∧
      BackAns P (lone (Frame.round L.blk f t a x .normal) (c :: rest) w) c rest κ u r.2.1 r.1

def ModeR (ι : Inj) : Option AV → FrameMode → Prop
  | none, m => m = .returning
  | some v, m => ∃ v', VR ι v v' ∧ m = .panicking [entry v']

def outOf : AEx → Option (Option AV)
  | .norm => some none
  | .panic p => some (some p)
  | _ => none

def DefersOk (P : Program) (v : Option AV) (s : ASt) (r : Ans) : Prop :=
  r.2.2.regs = s.regs ∧ r.2.2.size = s.size ∧ r.2.2.pan = s.pan ∧ r.2.2.defs = [] ∧ ∃ o, outOf r.1 = some o ∧
  ∀ (b : Frame) (cs : List Frame) (tm : Array Value) (ds : List Deferred) (kk : List Item) (mode : FrameMode) (ι : Inj) (w : World), ModeR ι v mode → DRs ι s.defs ds → HR ι s.h w → GR P ι →
    ∃ κ u mode', ModeR κ o mode' ∧ HR κ r.2.2.h u ∧ Ext ι s.h w κ r.2.2.h u ∧ Steps P (lone { fon b tm ds kk with mode := mode } cs w) (lone { fon b tm [] kk with mode := mode' } cs u)

def CodeOk (P : Program) (start : List Item → List Item) (fn : FuncId) (round : Option Nat) (s : ASt) (r : Ans) : Prop :=
  ∀ (b : Frame) (cs : List Frame) (k : List Item) (tm : Array Value) (ds : List Deferred) (ι : Inj) (w : World), b.fn = fn → (∀ l, round = some l → ∃ L, ι l = some L ∧ b.roundOf = some L.blk) → (round = none → b.roundOf = none) →
    Good P ι b.kind cs s tm ds w → Ends P (lone (fon b tm ds (start k)) (csAt cs s.pan) w) b k cs ι s.h w r

structure RecOk (P : Program) (rec : Job → ASt → Option Ans) : Prop where
  code : ∀ fn round c s r, rec (.code fn round c) s = some r → CodeOk P (fun k => .code c :: k) fn round s r
  loop : ∀ fn round c s r, rec (.loop fn round c) s = some r → CodeOk P (fun k => .code c :: .inLoop c :: k) fn round s r
  scope : ∀ fn round c body s r, rec (.scope fn round c body) s = some r → CodeOk P (fun k => .code c :: .inScope body :: k) fn round s r
  call : ∀ f args s r, rec (.call f args) s = some r → CallOk P f args s r
  ncall : ∀ f args s r, rec (.ncall f args) s = some r → NCallOk P f args s r
  yield : ∀ l args s r, rec (.yield l args) s = some r → YieldOk P l args s r
  defers : ∀ v s r, rec (.defers v) s = some r → DefersOk P v s r

end Go.AM

namespace Go.AM
variable {P : Program} {ι : Inj} {h : AHeap} {w : World}

theorem undef_VR (ι : Inj) : VR ι undef Go.undef := ⟨[], rfl, rfl⟩

theorem callFunc_run {f : FuncId} {fn : Func} (hf : P.funcs[f]? = some fn) (hb : fn.body.isSome = true) (hn : (fn.name == "runtime.NumGoroutine") = false) (args : Array Value) (w : World) :
    (callFunc f args).run P w = .ok (.enter f args) w := by
  have hb' : fn.body.isNone = false := by cases hx : fn.body <;> simp_all
  have hn' : ¬ (fn.name == "runtime.NumGoroutine") = true := by rw [hn]; simp
  have hb2 : ¬ fn.body.isNone = true := by rw [hb']; simp
  unfold callFunc
  rw [Sem.run_bind, run_program, Result.andThen_ok]
  simp only [hf]
  rw [Sem.run_ite, if_neg hn', Sem.run_ite, if_neg hb2]
  rfl

theorem defer_out {c : Call} {regs : Tr AV} : aexec (.defer c) P regs h = .fail ∨ ∃ d, aexec (.defer c) P regs h = .defer d := by
  change xDefer P regs c (aevals P regs c.args.toList) = .fail ∨ ∃ d, xDefer P regs c (aevals P regs c.args.toList) = .defer d
  unfold xDefer
  split
  · exact .inl rfl
  · split
    · rename_i args _ _ f _
      rcases x1_cases (xDeferValue args) (aeval P regs f) with he | ⟨a, _, he⟩
      · exact .inl he
      · rw [he]
        unfold xDeferValue
        split
        · exact .inr ⟨_, rfl⟩
        · exact .inl rfl
    · exact .inl rfl

/-- Where the machine stands before an operation. -/
structure OpAt (P : Program) (ops : Array Oper) (i : Nat) (o : Oper) (round : Option Nat) (s : ASt) (b : Frame) (tm : Array Value) (ds : List Deferred) (cs : List Frame) (ι : Inj) (w : World) (fr : Frame) : Prop where
  op : ops[i]? = some o
  wanted : Region.wanted o (yielded ops tm) = true
  round : round = none → b.roundOf = none
  operands : Operands P ι (seenBy o s.regs) fr.eval
  heap : HR ι s.h w
  defs : DRs ι s.defs ds
  pan : PanInv ι b.kind cs s.pan
  glob : GR P ι

def OpOk (P : Program) (o : Oper) (round : Option Nat) (s : ASt) (v : AV) (h' : AHeap) (defs' : List ADef) (pan' : APan) : Prop :=
  ∀ (ops : Array Oper) (i : Nat) (rest : List Nat) (b : Frame) (tm : Array Value) (ds : List Deferred) (cs : List Frame) (k : List Item) (ι : Inj) (w : World),
    OpAt P ops i o round s b tm ds cs ι w (fon b tm ds (.inRegion ops (i :: rest) :: k)) →
    ∃ κ v' ds' u, VR κ v v' ∧ HR κ h' u ∧ Ext ι s.h w κ h' u ∧ DRs κ defs' ds' ∧ PanInv κ b.kind cs pan' ∧
      Steps P (lone (fon b tm ds (.inRegion ops (i :: rest) :: k)) (csAt cs s.pan) w) (lone (fon b (putD tm o.dst v') ds' (.inRegion ops rest :: k)) (csAt cs pan') u)

def OpPan (P : Program) (o : Oper) (round : Option Nat) (s : ASt) (p : AV) (h' : AHeap) : Prop :=
  ∀ (ops : Array Oper) (i : Nat) (rest : List Nat) (b : Frame) (tm : Array Value) (ds : List Deferred) (cs : List Frame) (k : List Item) (ι : Inj) (w : World),
    OpAt P ops i o round s b tm ds cs ι w (fon b tm ds (.inRegion ops (i :: rest) :: k)) →
    ∃ κ p' kk u, VR κ p p' ∧ HR κ h' u ∧ Ext ι s.h w κ h' u ∧
      Steps P (lone (fon b tm ds (.inRegion ops (i :: rest) :: k)) (csAt cs s.pan) w) (lone { fon b tm ds kk with mode := .panicking [entry p'] } (csAt cs s.pan) u)

theorem turned_csAt {kind : CallKind} {cs : List Frame} {v : AV} (h : PanInv ι kind cs (.live v)) : ∃ v', VR ι v v' ∧ ∀ fr : Frame, fr.kind = kind → tryRecover fr cs = some (v', turned cs) := by
  obtain ⟨rfl, c, rest, v', older, rfl, hm, hv⟩ := h
  refine ⟨v', hv, fun fr hk => ?_⟩
  unfold tryRecover
  rw [hk]
  simp only [hm, entry, turned]

theorem tryRecover_turned {kind : CallKind} {cs : List Frame} {v : AV} (h : PanInv ι kind cs (.recovered v)) (fr : Frame) (hk : fr.kind = kind) : tryRecover fr (turned cs) = none := by
  obtain ⟨rfl, c, rest, v', older, rfl, hm, hv⟩ := h
  unfold tryRecover
  rw [hk]
  simp only [hm, entry, turned]

theorem evOp_sound {rec : Job → ASt → Option Ans} (hrec : RecOk P rec) {k : ASt → Option Ans} {pk : AV → ASt → Option Ans} {round : Option Nat} {o : Oper} {s : ASt} {r : Ans} (he : evOp P rec k pk round o s = some r) :
    (∃ v h' defs' pan', putK k s.regs s.size defs' pan' h' v o.dst = some r ∧ OpOk P o round s v h' defs' pan') ∨ (∃ p h', pk p (s.withH h') = some r ∧ OpPan P o round s p h') := by
  have nd : ∀ x, aexec o.op P s.regs s.h = x → x ≠ .fail → (∀ d, x ≠ .defer d) → ∀ c, o.op ≠ .defer c := by
    intro x hx h1 h2 c hc
    rw [hc] at hx
    rcases defer_out (P := P) (h := s.h) (c := c) (regs := s.regs) with h | ⟨d, h⟩
    · exact h1 (hx.symm.trans h)
    · exact h2 d (hx.symm.trans h)
  unfold evOp evOut at he
  cases hx : aexec o.op P s.regs s.h with
  | fail => rw [hx] at he; cases he
  | val v h' =>
    rw [hx] at he
    refine .inl ⟨v, h', s.defs, s.pan, he, ?_⟩
    intro ops i rest b tm ds cs k ι w ha
    have hs := aexec_sound' (w := w) o ha.operands ha.heap
    rw [hx] at hs
    obtain ⟨κ, u, v', h1, h2, h3, h4⟩ := hs
    exact ⟨κ, v', ds, u, h2, h3, h4, ha.defs.mono h4.le, ha.pan.mono h4.le, .one (on_value ha.op ha.wanted (.inr (nd _ hx (by simp) (by simp))) h1)⟩
  | skip h' =>
    rw [hx] at he
    refine .inl ⟨undef, h', s.defs, s.pan, he, ?_⟩
    intro ops i rest b tm ds cs k ι w ha
    have hs := aexec_sound' (w := w) o ha.operands ha.heap
    rw [hx] at hs
    obtain ⟨κ, u, h1, h3, h4⟩ := hs
    exact ⟨κ, Go.undef, ds, u, undef_VR κ, h3, h4, ha.defs.mono h4.le, ha.pan.mono h4.le, .one (on_skipped ha.op ha.wanted (.inr (nd _ hx (by simp) (by simp))) h1)⟩
  | call f args =>
    rw [hx] at he
    change evBack k pk o.dst s (rec (.ncall f args) (callee s.h)) = some r at he
    unfold evBack at he
    split at he
    · rename_i v s' hr
      refine .inl ⟨v, s'.h, s.defs, s.pan, he, ?_⟩
      intro ops i rest b tm ds cs k ι w ha
      have hs := aexec_sound' (w := w) o ha.operands ha.heap
      rw [hx] at hs
      obtain ⟨args', hv, hrun⟩ := hs
      obtain ⟨⟨fn, hf, hb, hn⟩, hc⟩ := hrec.ncall _ _ _ _ hr
      rw [callFunc_run hf hb hn] at hrun
      obtain ⟨κ, u, h1, h2, h4⟩ := hc (fon b tm ds (.inRegion ops (i :: rest) :: k) :: csAt cs s.pan) args' ι w hv ha.heap ha.glob rfl
      obtain ⟨fr, v', e1, e2, e3, e4, e5, ⟨fn', e6, e7⟩, e8⟩ := h4
      refine ⟨κ, v', ds, u, e5, h1, h2, ha.defs.mono h2.le, ha.pan.mono h2.le, .head (on_enter ha.op ha.wanted (.inr (nd _ hx (by simp) (by simp))) hrun) (e8.trans (.one ?_))⟩
      rw [← fon_finish ha.op]
      exact step_leave_returned ⟨e3, e4, e2, fn', e6, e7⟩
    · rename_i p v s' hr
      refine .inr ⟨p, s'.h, he, ?_⟩
      intro ops i rest b tm ds cs k ι w ha
      have hs := aexec_sound' (w := w) o ha.operands ha.heap
      rw [hx] at hs
      obtain ⟨args', hv, hrun⟩ := hs
      obtain ⟨⟨fn, hf, hb, hn⟩, hc⟩ := hrec.ncall _ _ _ _ hr
      rw [callFunc_run hf hb hn] at hrun
      obtain ⟨κ, u, h1, h2, h4⟩ := hc (fon b tm ds (.inRegion ops (i :: rest) :: k) :: csAt cs s.pan) args' ι w hv ha.heap ha.glob rfl
      obtain ⟨fr, p', e1, e3, e4, e6, e5, e8⟩ := h4
      refine ⟨κ, p', _, u, e5, h1, h2, .head (on_enter ha.op ha.wanted (.inr (nd _ hx (by simp) (by simp))) hrun) (e8.trans (.one (step_leave_panicked ⟨e3, e4, e6⟩)))⟩
    · cases he
  | yield l args =>
    rw [hx] at he
    change evBack k pk o.dst s (rec (.yield l args) (callee s.h)) = some r at he
    unfold evBack at he
    split at he
    · rename_i v s' hr
      refine .inl ⟨v, s'.h, s.defs, s.pan, he, ?_⟩
      intro ops i rest b tm ds cs k ι w ha
      have hs := aexec_sound' (w := w) o ha.operands ha.heap
      rw [hx] at hs
      obtain ⟨L, args', hL, hv, hrun⟩ := hs
      obtain ⟨κ, u, h1, h2, f, t, a, x, h3, h4⟩ := hrec.yield _ _ _ _ hr (fon b tm ds (.inRegion ops (i :: rest) :: k)) (csAt cs s.pan) L args' ι w hL hv ha.heap ha.glob
      rw [h3] at hrun
      obtain ⟨v', e5, e8⟩ := h4
      rw [fon_finish ha.op] at e8
      exact ⟨κ, v', ds, u, e5, h1, h2, ha.defs.mono h2.le, ha.pan.mono h2.le, .head (on_round ha.op ha.wanted (.inr (nd _ hx (by simp) (by simp))) hrun) e8⟩
    · rename_i p v s' hr
      refine .inr ⟨p, s'.h, he, ?_⟩
      intro ops i rest b tm ds cs k ι w ha
      have hs := aexec_sound' (w := w) o ha.operands ha.heap
      rw [hx] at hs
      obtain ⟨L, args', hL, hv, hrun⟩ := hs
      obtain ⟨κ, u, h1, h2, f, t, a, x, h3, h4⟩ := hrec.yield _ _ _ _ hr (fon b tm ds (.inRegion ops (i :: rest) :: k)) (csAt cs s.pan) L args' ι w hL hv ha.heap ha.glob
      rw [h3] at hrun
      obtain ⟨p', e5, e8⟩ := h4
      exact ⟨κ, p', _, u, e5, h1, h2, .head (on_round ha.op ha.wanted (.inr (nd _ hx (by simp) (by simp))) hrun) e8⟩
    · cases he
  | defer d =>
    rw [hx] at he
    change evDefer k d o.dst s round = some r at he
    cases hr : round with
    | some l => rw [hr] at he; cases he
    | none =>
      rw [hr] at he
      refine .inl ⟨undef, s.h, d :: s.defs, s.pan, he, ?_⟩
      intro ops i rest b tm ds cs k ι w ha
      have hs := aexec_sound' (w := w) o ha.operands ha.heap
      rw [hx] at hs
      obtain ⟨d', c, h1, h2, h3⟩ := hs
      exact ⟨ι, Go.undef, d' :: ds, w, undef_VR ι, ha.heap, Ext.refl _ _ _, ⟨d', ds, h1, ha.defs, rfl⟩, ha.pan, .one (on_defer ha.op ha.wanted (ha.round rfl) h2 h3)⟩
  | recover =>
    rw [hx] at he
    change evRecover k o.dst s round = some r at he
    cases hr : round with
    | some l => rw [hr] at he; cases he
    | none =>
      rw [hr] at he
      simp only [evRecover] at he
      split at he
      · rename_i hp
        refine .inl ⟨.niface, s.h, s.defs, .none, he, ?_⟩
        intro ops i rest b tm ds cs k ι w ha
        have hs := aexec_sound' (w := w) o ha.operands ha.heap
        rw [hx] at hs
        have hpan := ha.pan
        rw [hp] at hpan
        have hstep := on_recover (cs := cs) ha.op ha.wanted (ha.round rfl) hs
        rw [hpan (fon b tm ds (.inRegion ops (i :: rest) :: k)) rfl] at hstep
        refine ⟨ι, .nilIface, ds, w, rfl, ha.heap, Ext.refl _ _ _, ha.defs, hpan, ?_⟩
        rw [hp]
        exact .one hstep
      · rename_i v hp
        refine .inl ⟨v, s.h, s.defs, .recovered v, he, ?_⟩
        intro ops i rest b tm ds cs k ι w ha
        have hs := aexec_sound' (w := w) o ha.operands ha.heap
        rw [hx] at hs
        have hpan := ha.pan
        rw [hp] at hpan
        obtain ⟨v', hv, htr⟩ := turned_csAt hpan
        have hstep := on_recover (cs := cs) ha.op ha.wanted (ha.round rfl) hs
        rw [htr (fon b tm ds (.inRegion ops (i :: rest) :: k)) rfl] at hstep
        refine ⟨ι, v', ds, w, hv, ha.heap, Ext.refl _ _ _, ha.defs, hpan, ?_⟩
        rw [hp]
        exact .one hstep
      · rename_i v hp
        refine .inl ⟨.niface, s.h, s.defs, .recovered v, he, ?_⟩
        intro ops i rest b tm ds cs k ι w ha
        have hs := aexec_sound' (w := w) o ha.operands ha.heap
        rw [hx] at hs
        have hpan := ha.pan
        rw [hp] at hpan
        have hstep := on_recover (cs := turned cs) ha.op ha.wanted (ha.round rfl) hs
        rw [tryRecover_turned hpan (fon b tm ds (.inRegion ops (i :: rest) :: k)) rfl] at hstep
        refine ⟨ι, .nilIface, ds, w, rfl, ha.heap, Ext.refl _ _ _, ha.defs, hpan, ?_⟩
        rw [hp]
        exact .one hstep
  | panic v =>
    rw [hx] at he
    refine .inr ⟨v, s.h, he, ?_⟩
    intro ops i rest b tm ds cs k ι w ha
    have hs := aexec_sound' (w := w) o ha.operands ha.heap
    rw [hx] at hs
    obtain ⟨v', h1, h2⟩ := hs
    exact ⟨ι, v', _, w, h1, ha.heap, Ext.refl _ _ _, .one (on_panic ha.op ha.wanted (.inr (nd _ hx (by simp) (by simp))) h2)⟩

end Go.AM

namespace Go.AM
variable {P : Program} {ι : Inj} {h : AHeap} {w : World}

theorem VR_notBool {a : AV} {v : Value} (hv : VR ι a v) (ha : ∀ b, a ≠ .bool b) : ∀ b, v ≠ .bool b := by
  intro b e
  subst e
  cases a <;> simp only [VR] at hv
  case bool c => exact ha c rfl
  all_goals first
    | (cases hv; done)
    | (obtain ⟨_, e⟩ := hv; cases e; done)
    | (obtain ⟨_, _, e⟩ := hv; cases e; done)
    | (obtain ⟨_, _, _, _, _, _, _, e⟩ := hv; cases e; done)
    | (obtain ⟨_, _, _, _, e⟩ := hv; cases e; done)

/-- Whether an operation is to be done. -/
theorem awanted_run {ops : Array Oper} {regs : Tr AV} {tm : Array Value} {o : Oper} {c : Bool} (he : awanted ops regs o.guard = some c)
    (hr : ∀ j want p d v, o.guard = some (j, want) → ops[j]? = some p → p.dst = some d → regs.get d = some v → ∃ v', tm[d]? = some v' ∧ VR ι v v') :
    Region.wanted o (yielded ops tm) = c := by
  unfold Region.wanted
  cases hg : o.guard with
  | none =>
    rw [hg] at he
    have : some true = some c := he
    cases this
    rfl
  | some g =>
    obtain ⟨j, want⟩ := g
    rw [hg] at he
    change yieldedIs regs want ops[j]? = some c at he
    unfold yieldedIs at he
    split at he
    · rename_i p hp
      split at he
      · rename_i d hd
        unfold boolIs at he
        split at he
        · rename_i b hb
          obtain ⟨v', h1, h2⟩ := hr j want p d _ hg hp hd hb
          obtain rfl := VR_bool h2
          simp only [Option.some.injEq] at he
          subst he
          simp [yielded, hp, hd, h1]
        · rename_i v hnb hb
          obtain ⟨v', h1, h2⟩ := hr j want p d _ hg hp hd hb
          simp only [Option.some.injEq] at he
          subst he
          have := VR_notBool h2 (fun b e => hnb b e)
          have hy : yielded ops tm j = none := by
            simp only [yielded, hp, Option.bind_some, hd, h1]
            split
            · rename_i b hb2; exact absurd (Option.some.inj hb2) (this b)
            · rfl
          simp [hy]
        · cases he
      · cases he
    · cases he

theorem putK_spec {k : ASt → Option Ans} {regs : Tr AV} {size : Nat} {defs : List ADef} {pan : APan} {h : AHeap} {v : AV} {dst : Option Tmp} {r : Ans} (he : putK k regs size defs pan h v dst = some r) :
    ∃ regs', k ⟨regs', size, defs, pan, h⟩ = some r ∧ ((dst = none ∧ regs' = regs) ∨ ∃ d, dst = some d ∧ d < size ∧ regs' = Tr.put (some v) regs d) := by
  cases dst with
  | none => exact ⟨regs, he, .inl ⟨rfl, rfl⟩⟩
  | some d =>
    change Bool.rec (motive := fun _ => Option Ans) none (k ⟨Tr.put (some v) regs d, size, defs, pan, h⟩) (Nat.ble (Nat.succ d) size) = some r at he
    cases hb : Nat.ble (Nat.succ d) size with
    | false => rw [hb] at he; cases he
    | true =>
      rw [hb] at he
      exact ⟨_, he, .inr ⟨d, rfl, Nat.le_of_ble_eq_true hb, rfl⟩⟩

theorem put_RR {κ : Inj} {regs regs' : Tr AV} {size : Nat} {v : AV} {v' : Value} {dst : Option Tmp} {tm : Array Value} (hr : RR κ regs tm) (hs : tm.size = size) (hv : VR κ v v')
    (hp : (dst = none ∧ regs' = regs) ∨ ∃ d, dst = some d ∧ d < size ∧ regs' = Tr.put (some v) regs d) : RR κ regs' (putD tm dst v') ∧ (putD tm dst v').size = size := by
  rcases hp with ⟨rfl, rfl⟩ | ⟨d, rfl, hd, rfl⟩
  · exact ⟨hr, hs⟩
  · exact ⟨hr.put hv (by rw [hs]; exact hd), by simp [putD, hs]⟩

/-- On with an operation done, in the frame's own terms. -/
theorem step_done {rec : Job → ASt → Option Ans} (hrec : RecOk P rec) {next : ASt → Option Ans} {round : Option Nat} {ops : Array Oper} {o : Oper} {s : ASt} {r : Ans} {i : Nat} {rest : List Nat}
    (he : evOps P rec round ops o next s = some r) (ho : ops[i]? = some o) {b : Frame} {cs : List Frame} {k : List Item} {tm : Array Value} {ds : List Deferred} {ι : Inj} {w : World}
    (hround : round = none → b.roundOf = none) (hg : Good P ι b.kind cs s tm ds w)
    (hnext : ∀ s' r, next s' = some r → ∀ tm' ds' ι' w', Good P ι' b.kind cs s' tm' ds' w' → Ends P (lone (fon b tm' ds' (.inRegion ops rest :: k)) (csAt cs s'.pan) w') b k cs ι' s'.h w' r) :
    Ends P (lone (fon b tm ds (.inRegion ops (i :: rest) :: k)) (csAt cs s.pan) w) b k cs ι s.h w r := by
  unfold evOps evWhether at he
  cases haw : awanted ops s.regs o.guard with
  | none => rw [haw] at he; cases he
  | some c =>
    rw [haw] at he
    have hw := awanted_run (tm := tm) haw (fun j want p d v _ _ _ hv => hg.regs d v hv)
    cases c with
    | false =>
      change evSkip next o s = some r at he
      obtain ⟨regs', h1, h2⟩ := putK_spec he
      obtain ⟨h3, h4⟩ := put_RR hg.regs hg.size (undef_VR ι) h2
      exact Ends.trans (.one (on_unwanted ho hw)) (Ext.refl _ _ _) (hnext _ r h1 _ ds ι w ⟨h3, h4, hg.defs, hg.heap, hg.pan, hg.glob⟩)
    | true =>
      change evOp P rec next panicked round o s = some r at he
      have hat : OpAt P ops i o round s b tm ds cs ι w (fon b tm ds (.inRegion ops (i :: rest) :: k)) :=
        ⟨ho, hw, hround, (operands_of (fr := fon b tm ds (.inRegion ops (i :: rest) :: k)) hg.regs hg.glob).seen o, hg.heap, hg.defs, hg.pan, hg.glob⟩
      rcases evOp_sound hrec he with ⟨v, h', defs', pan', h1, h2⟩ | ⟨p, h', h1, h2⟩
      · obtain ⟨κ, v', ds', u, a1, a2, a3, a4, a5, a6⟩ := h2 ops i rest b tm ds cs k ι w hat
        obtain ⟨regs', h3, h4⟩ := putK_spec h1
        obtain ⟨h5, h6⟩ := put_RR (hg.regs.mono a3.le) hg.size a1 h4
        exact Ends.trans a6 a3 (hnext _ r h3 _ ds' κ u ⟨h5, h6, a4, a2, a5, hg.glob.mono a3.le⟩)
      · obtain ⟨κ, p', kk, u, a1, a2, a3, a4⟩ := h2 ops i rest b tm ds cs k ι w hat
        have h1' : some (AEx.panic p, undef, s.withH h') = some r := h1
        cases h1'
        exact ⟨κ, tm, ds, u, ⟨hg.regs.mono a3.le, hg.size, hg.defs.mono a3.le, a2, hg.pan.mono a3.le, hg.glob.mono a3.le⟩, a3, kk, p', a1, a4⟩

theorem evOpsL_sound {rec : Job → ASt → Option Ans} (hrec : RecOk P rec) {round : Option Nat} {ops : Array Oper} : ∀ (l : List Oper) (j : Nat), ops.toList.drop j = l → ∀ (s : ASt) (r : Ans), evOpsL P rec round ops l s = some r →
    ∀ (b : Frame) (cs : List Frame) (k : List Item) (tm : Array Value) (ds : List Deferred) (ι : Inj) (w : World), (round = none → b.roundOf = none) → Good P ι b.kind cs s tm ds w →
      Ends P (lone (fon b tm ds (.inRegion ops (List.range' j l.length) :: k)) (csAt cs s.pan) w) b k cs ι s.h w r
  | [], j, _, s, r, he, b, cs, k, tm, ds, ι, w, _, hg => by
    have he' : some (AEx.norm, undef, s) = some r := he
    cases he'
    exact ⟨ι, tm, ds, w, hg, Ext.refl _ _ _, .one on_done⟩
  | o :: l, j, hl, s, r, he, b, cs, k, tm, ds, ι, w, hround, hg => by
    have ho : ops[j]? = some o := by
      have : ops.toList[j]? = some o := by
        have := congrArg (·[0]?) hl
        simpa [List.getElem?_drop] using this
      simpa using this
    have hl' : ops.toList.drop (j + 1) = l := by
      have := congrArg List.tail hl
      simpa [List.tail_drop] using this
    refine step_done hrec (next := evOpsL P rec round ops l) he ho hround hg ?_
    intro s' r' h' tm' ds' ι' w' hg'
    exact evOpsL_sound hrec l (j + 1) hl' s' r' h' b cs k tm' ds' ι' w' hround hg'

theorem region_sound {rec : Job → ASt → Option Ans} (hrec : RecOk P rec) {round : Option Nat} {ops : Array Oper} {id : Nat} {s : ASt} {r : Ans} (he : evOpsL P rec round ops ops.toList s = some r)
    {b : Frame} {cs : List Frame} {k : List Item} {tm : Array Value} {ds : List Deferred} {ι : Inj} {w : World} (hround : round = none → b.roundOf = none) (hg : Good P ι b.kind cs s tm ds w) :
    Ends P (lone (fon b tm ds (.code (.region id ops false) :: k)) (csAt cs s.pan) w) b k cs ι s.h w r := by
  have := evOpsL_sound hrec ops.toList 0 (by simp) s r he b cs k tm ds ι w hround hg
  refine Ends.trans (.one on_region) (Ext.refl _ _ _) ?_
  rw [List.range_eq_range', show ops.size = ops.toList.length from by simp]
  exact this

end Go.AM

namespace Go.AM
variable {P : Program} {ι : Inj} {h : AHeap} {w : World}

/-! Range over functions. -/
theorem getLoop_run {l : Nat} {L : Loc} {x : ALoop} (hb : HB ι h w) (hL : ι l = some L) (hg : h.get l = some (.loop x)) :
    ∃ tm Ld, ι x.defers = some Ld ∧ RR ι x.tmps tm ∧ tm.size = x.size ∧
      (Instr.getLoop L.blk).run P w = .ok { state := x.state, pending := x.pending, fn := x.fn, tmps := tm, params := x.params.toArray, assign := x.assign, body := x.body, defers := Ld.blk } w := by
  obtain ⟨tm, Ld, h1, h2, h3, h4⟩ := hb l _ L hg hL
  refine ⟨tm, Ld, h1, h2, h3, ?_⟩
  simp [Instr.getLoop, getObj, Sem.run, h4]

theorem enterLoop_run {fn : FuncId} {round : Option Nat} {s s1 : ASt} {d : Nat} {params : Array Tmp} {assign body : Code} {b : Frame} {kind : CallKind} {cs : List Frame} {tm : Array Value} {ds : List Deferred}
    (he : loopReady s round = some (d, s1)) (hr1 : ∀ l, round = some l → ∃ L, ι l = some L ∧ b.roundOf = some L.blk) (hr2 : round = none → b.roundOf = none) (hg : Good P ι kind cs s tm ds w) :
    s1.regs = s.regs ∧ s1.size = s.size ∧ s1.pan = s.pan ∧ ∃ κ u L mark, (Instr.enterLoop fn tm params assign body b.roundOf).run P w = .ok (L.blk, mark) u ∧ κ s1.h.next = some L ∧
      HR κ (s1.h.new (.loop ⟨.ready, none, fn, s1.regs, s1.size, params.toList, assign, body, d⟩)) u ∧ Ext ι s.h w κ (s1.h.new (.loop ⟨.ready, none, fn, s1.regs, s1.size, params.toList, assign, body, d⟩)) u ∧
      DRs κ s1.defs (mark ++ ds) := by
  cases round with
  | none =>
    simp only [loopReady, Option.some.injEq, Prod.mk.injEq] at he
    obtain ⟨rfl, rfl⟩ := he
    refine ⟨rfl, rfl, rfl, ?_⟩
    have hle1 : ι.le (ι.upd s.h.next ⟨w.heap.size, 0, 0, 0⟩) := Inj.upd_le (hg.heap.fresh _ (Nat.le_refl _))
    have hA := new_ext (size := 0) (extra := 0) (u := { w with heap := w.heap.push (.deferred (some [])) }) (k := .deferred (some [])) hg.heap (pushed_push rfl rfl rfl rfl) ⟨[], rfl, rfl⟩
    have hs1 : ({ w with heap := w.heap.push (.deferred (some [])) } : World).heap.size = w.heap.size + 1 := by simp
    have hle2 := Inj.upd_le (L := ⟨({ w with heap := w.heap.push (.deferred (some [])) } : World).heap.size, 0, 0, 0⟩) (hA.1.fresh _ (Nat.le_refl _))
    have hd : (ι.upd s.h.next ⟨w.heap.size, 0, 0, 0⟩) s.h.next = some ⟨w.heap.size, 0, 0, 0⟩ := by simp [Inj.upd]
    have hB := new_ext (size := 0) (extra := 0) (u := { w with heap := (w.heap.push (.deferred (some []))).push (.loop { state := .ready, pending := none, fn, tmps := tm, params, assign, body, defers := w.heap.size }) })
      (k := .loop ⟨.ready, none, fn, s.regs, s.size, params.toList, assign, body, s.h.next⟩) hA.1 (pushed_push rfl rfl rfl rfl)
      ⟨tm, _, hle2 _ _ hd, (hg.regs.mono hle1).mono hle2, hg.size, rfl⟩
    refine ⟨_, _, ⟨({ w with heap := w.heap.push (.deferred (some [])) } : World).heap.size, 0, 0, 0⟩, [{ target := .collected w.heap.size, args := #[] }], ?_, by simp [Inj.upd], hB.1, hA.2.trans hB.2, ?_⟩
    · rw [hr2 rfl]
      simp [Instr.enterLoop]
      rfl
    · exact ⟨_, _, ⟨_, hle2 _ _ hd, rfl⟩, (hg.defs.mono hle1).mono hle2, rfl⟩
  | some l =>
    simp only [loopReady] at he
    split at he
    · rename_i x hx
      simp only [Option.some.injEq, Prod.mk.injEq] at he
      obtain ⟨rfl, rfl⟩ := he
      refine ⟨rfl, rfl, rfl, ?_⟩
      obtain ⟨L, hL, hro⟩ := hr1 l rfl
      obtain ⟨tm0, Ld, h1, h2, h3, h4⟩ := getLoop_run (P := P) hg.heap.hb hL hx
      have hle1 : ι.le (ι.upd s.h.next ⟨w.heap.size, 0, 0, 0⟩) := Inj.upd_le (hg.heap.fresh _ (Nat.le_refl _))
      have hB := new_ext (size := 0) (extra := 0) (u := { w with heap := w.heap.push (.loop { state := .ready, pending := none, fn, tmps := tm, params, assign, body, defers := Ld.blk }) })
        (k := .loop ⟨.ready, none, fn, s.regs, s.size, params.toList, assign, body, x.defers⟩) hg.heap (pushed_push rfl rfl rfl rfl)
        ⟨tm, _, hle1 _ _ h1, hg.regs.mono hle1, hg.size, rfl⟩
      refine ⟨_, _, ⟨w.heap.size, 0, 0, 0⟩, [], ?_, by simp [Inj.upd], hB.1, hB.2, hg.defs.mono hle1⟩
      rw [hro]
      simp [Instr.enterLoop, h4]
    · cases he

section
variable {b : Frame} {tm : Array Value} {ds : List Deferred} {k : List Item} {cs : List Frame}

theorem on_rangeFunc {f : Operand} {params : Array Tmp} {assign body : Code} {l : Nat} {mark : List Deferred} {u : World} {g : FuncId} {first captured : Array Value} {fn : Func}
    (he : (Instr.enterLoop b.fn tm params assign body b.roundOf).run P w = .ok (l, mark) u) (hf : (fon b tm ds k).eval f = .func (.func g) first captured)
    (hg : P.funcs[g]? = some fn) (hb : fn.body.isSome = true) (hn : (fn.name == "runtime.NumGoroutine") = false) :
    step P (lone (fon b tm ds (.code (.rangeFunc f params assign body) :: k)) cs w) =
      .next (lone (Frame.enter P g (first ++ #[.func (.yield l) #[] #[]] ++ captured) .normal) (fon b tm (mark ++ ds) (.inRangeFunc l :: k) :: cs) u) := by
  refine step_lone_go ?_
  have he' : (Instr.enterLoop (fon b tm ds (.code (.rangeFunc f params assign body) :: k)).fn (fon b tm ds (.code (.rangeFunc f params assign body) :: k)).tmps params assign body (fon b tm ds (.code (.rangeFunc f params assign body) :: k)).roundOf).run P w = .ok (l, mark) u := he
  have hx : (do let d ← resolve (fon b tm (mark ++ ds) (.inRangeFunc l :: k)).eval { callee := .value f, args := #[.const (.func (.yield l) #[] #[])], argTypes := #[] } 0; invoke d.target d.args : Sem Next).run P u =
      .ok (.enter g (first ++ #[.func (.yield l) #[] #[]] ++ captured)) u := by
    have hf' : (fon b tm (mark ++ ds) (.inRangeFunc l :: k)).eval f = .func (.func g) first captured := by
      rw [← hf]; cases f <;> rfl
    simp only [resolve, hf', Deferred.ofValue, Sem.run_bind, Sem.run_pure, Result.andThen_ok, invoke]
    have hm : Array.map (fon b tm (mark ++ ds) (.inRangeFunc l :: k)).eval #[Operand.const (Value.func (Fn.yield l) #[] #[])] = #[Value.func (Fn.yield l) #[] #[]] := by simp [Frame.eval]
    rw [hm]
    exact callFunc_run hg hb hn _ _
  have e1 : (stepG P true { frame := fon b tm ds (.code (.rangeFunc f params assign body) :: k), callers := cs, status := .running, dying := none } w).bare =
      (stepG.apply P true (fon b tm (mark ++ ds) (.inRangeFunc l :: k)) cs none (do let d ← resolve (fon b tm (mark ++ ds) (.inRangeFunc l :: k)).eval { callee := .value f, args := #[.const (.func (.yield l) #[] #[])], argTypes := #[] } 0; invoke d.target d.args) u).bare := by
    have he2 := he'
    simp only [fon] at he2
    simp only [stepG, stepG.exec, fon, Sem.runT_eq, he2, GStep.bare_after]
  rw [e1]
  simp only [stepG.apply, Sem.runT_eq, hx, GStep.bare_after]
  rfl

theorem on_endRange {l : Nat} {jump : Option Code} {u : World} (he : (Instr.endLoop l).run P w = .ok jump u) :
    step P (lone (fon b tm ds (.endRangeFunc l :: k)) cs w) = .next (lone (fon b tm ds ((jump.map Item.code).toList ++ k)) cs u) := by
  refine step_lone_go ?_
  simp only [stepG, stepG.exec, fon, Sem.runT_eq, he, GStep.bare_after]
  rfl

end

theorem setObj_run {g : Nat} {o' : Obj} (o : Obj) (hg : w.heap[g]? = some o') (hn : ∀ c e f, o' ≠ .cells c e f) : (setObj g o).run P w = .ok () { w with heap := w.heap.setIfInBounds g o } := by
  cases o' <;> first | exact absurd rfl (hn _ _ _) | simp only [setObj, Sem.run, hg]

theorem evLoopEnd_sound {l : Nat} {L : Loc} {s : ASt} {g : AHeap} {x : ALoop} {r : Ans} (he : evLoopEnd l s g (some (.loop x)) = some r) (hg : g.get l = some (.loop x)) (hL : ι l = some L) (hh : HR ι g w) :
    ∃ u jump y, (Instr.endLoop L.blk).run P w = .ok jump u ∧ HR ι (g.set l (.loop y)) u ∧ Ext ι g w ι (g.set l (.loop y)) u ∧ evJump (s.withH (g.set l (.loop y))) jump = some r := by
  simp only [evLoopEnd] at he
  split at he
  case h_2 => cases he
  rename_i y hy
  unfold loopShut at hy
  obtain ⟨tm, Ld, h1, h2, h3, h4⟩ := getLoop_run (P := P) hh.hb hL hg
  have hlt := hh.bound l L hL
  have hA := set_ext (k' := .loop y) hh hL hg rfl (rowSet_setObj w (.loop { state := .exhausted, pending := x.pending, fn := x.fn, tmps := tm, params := x.params.toArray, assign := x.assign, body := x.body, defers := Ld.blk }) hlt)
    (by
      split at hy
      · cases hy
      · cases hy
        exact ⟨tm, Ld, h1, h2, h3, rfl⟩)
  refine ⟨_, x.pending, y, ?_, hA.1, hA.2, he⟩
  have hst : (x.state == .busy) = false := by
    cases hs : x.state <;> first | rfl | (rw [hs] at hy; cases hy)
  obtain ⟨_, _, _, _, _, hobj⟩ := hh.hb l _ L hg hL
  simp only [Instr.endLoop, Sem.run_bind, h4, Result.andThen_ok, hst, Bool.false_eq_true, Sem.run_ite, if_false, Sem.run_pure, setObj_run _ hobj (by simp)]

theorem evJump_sound {s : ASt} {jump : Option Code} {r : Ans} (he : evJump s jump = some r) {b : Frame} {cs : List Frame} {k : List Item} {tm : Array Value} {ds : List Deferred} (hg : Good P ι b.kind cs s tm ds w) :
    Ends P (lone (fon b tm ds ((jump.map Item.code).toList ++ k)) (csAt cs s.pan) w) b k cs ι s.h w r := by
  unfold evJump at he
  split at he
  · cases he; exact ⟨ι, tm, ds, w, hg, Ext.refl _ _ _, Steps.refl _ _⟩
  · cases he; exact ⟨ι, tm, ds, w, hg, Ext.refl _ _ _, k, Steps.refl _ _⟩
  · cases he; exact ⟨ι, tm, ds, w, hg, Ext.refl _ _ _, k, rfl, Steps.refl _ _⟩
  · cases he; exact ⟨ι, tm, ds, w, hg, Ext.refl _ _ _, k, rfl, Steps.refl _ _⟩
  · cases he

theorem range_sound {rec : Job → ASt → Option Ans} (hrec : RecOk P rec) {fn : FuncId} {round : Option Nat} {f : Operand} {params : Array Tmp} {assign body : Code} {s : ASt} {r : Ans}
    (he : evRange rec fn round params.toList assign body s (aeval P s.regs f) = some r) : CodeOk P (fun k => .code (.rangeFunc f params assign body) :: k) fn round s r := by
  intro b cs k tm ds ι w hfn hr1 hr2 hg
  unfold evRange at he
  split at he
  case h_2 => cases he
  rename_i g first captured hv
  have hf := operands_of (fr := fon b tm ds k) hg.regs hg.glob f _ hv
  obtain ⟨first', captured', hv1, hv2, hfe⟩ := hf
  unfold evLoopFrom at he
  split at he
  · cases he
  rename_i d s1 hl
  obtain ⟨e1, e2, e3, κ, u, L, mark, hrun, hL, hh, hx, hd⟩ := enterLoop_run (fn := fn) (params := params) (assign := assign) (body := body) (b := b) hl hr1 hr2 hg
  subst hfn
  have hcall : ∀ r', rec (.call g (first ++ [.yield s1.h.next] ++ captured)) (callee (s1.h.new (.loop ⟨.ready, none, b.fn, s1.regs, s1.size, params.toList, assign, body, d⟩))) = some r' →
      ∃ μ v, HR μ r'.2.2.h v ∧ Ext ι s.h w μ r'.2.2.h v ∧ κ.le μ ∧ CallAns P (lone (fon b tm ds (.code (.rangeFunc f params assign body) :: k)) (csAt cs s.pan) w) g .normal (fon b tm (mark ++ ds) (.inRangeFunc L.blk :: k) :: csAt cs s.pan) μ v r'.2.1 r'.1 := by
    intro r' hr'
    obtain ⟨⟨fn', hf', hb', hn'⟩, hc⟩ := hrec.call _ _ _ _ hr'
    obtain ⟨μ, v, a1, a2, a3, a4⟩ := hc .normal (fon b tm (mark ++ ds) (.inRangeFunc L.blk :: k) :: csAt cs s.pan) (first' ++ [Value.func (.yield L.blk) #[] #[]] ++ captured') κ u
      (VRs.append (VRs.append (VRs.mono hx.le _ hv1) ⟨_, _, ⟨L, hL, rfl⟩, rfl, rfl⟩) (VRs.mono hx.le _ hv2)) hh (hg.glob.mono hx.le) (panInv_normal _)
    have hp := a3.normal
    have hstep := on_rangeFunc (P := P) (cs := csAt cs s.pan) hrun hfe hf' hb' hn'
    have hargs : first'.toArray ++ #[Value.func (.yield L.blk) #[] #[]] ++ captured'.toArray = (first' ++ [Value.func (.yield L.blk) #[] #[]] ++ captured').toArray := by
      apply Array.ext'; simp
    rw [hargs] at hstep
    rw [show csAt (fon b tm (mark ++ ds) (.inRangeFunc L.blk :: k) :: csAt cs s.pan) r'.2.2.pan = fon b tm (mark ++ ds) (.inRangeFunc L.blk :: k) :: csAt cs s.pan from by rw [hp]; rfl] at a4
    refine ⟨μ, v, a1, hx.trans a2, a2.le, ?_⟩
    revert a4
    cases r'.1 with
    | norm => rintro ⟨fr, v', b1, b2, b3, b4, b5, b6, b7⟩; exact ⟨fr, v', b1, b2, b3, b4, b5, b6, .head hstep b7⟩
    | panic p => rintro ⟨fr, v', b1, b3, b4, b5, b6, b7⟩; exact ⟨fr, v', b1, b3, b4, b5, b6, .head hstep b7⟩
    | exit => exact fun h => h
    | goto => exact fun h => h
    | ret => exact fun h => h
  unfold evLoopBack at he
  split at he
  · rename_i v s' hr'
    obtain ⟨μ, u2, a1, a2, hle, fr, v', b1, b2, b3, b4, b5, ⟨fn', b6, b8⟩, b7⟩ := hcall _ hr'
    have hk : ∃ x, s'.h.get s1.h.next = some (.loop x) := by
      unfold evLoopEnd at he
      split at he
      · rename_i x hx; exact ⟨x, hx⟩
      · cases he
    obtain ⟨x, hx2⟩ := hk
    rw [hx2] at he
    obtain ⟨u3, jump, y, c1, c2, c3, c4⟩ := evLoopEnd_sound (P := P) he hx2 (hle _ _ hL) a1
    have hgood : Good P μ b.kind cs (s1.withH (s'.h.set s1.h.next (.loop y))) tm (mark ++ ds) u3 :=
      ⟨by simp only [ASt.withH, e1]; exact hg.regs.mono a2.le, by simp only [ASt.withH, e2]; exact hg.size, hd.mono hle, c2, by simp only [ASt.withH, e3]; exact hg.pan.mono a2.le, hg.glob.mono a2.le⟩
    have hj := evJump_sound (k := k) c4 hgood
    refine Ends.trans (b7.trans (.head (step_leave_returned ⟨b3, b4, b2, fn', b6, b8⟩) (.one ?_))) (a2.trans c3) (by simpa only [ASt.withH, e3] using hj)
    exact on_endRange c1
  · rename_i p v s' hr'
    obtain ⟨μ, u2, a1, a2, hle, fr, p', b1, b3, b4, b5, b6, b7⟩ := hcall _ hr'
    cases he
    exact ⟨μ, tm, mark ++ ds, u2, ⟨by simp only [ASt.withH, e1]; exact hg.regs.mono a2.le, by simp only [ASt.withH, e2]; exact hg.size, hd.mono hle, a1, by simp only [ASt.withH, e3]; exact hg.pan.mono a2.le, hg.glob.mono a2.le⟩,
      a2, _, p', b6, by simp only [ASt.withH, e3]; exact b7.trans (.one (step_leave_panicked ⟨b3, b4, b5⟩))⟩
  · cases he

end Go.AM

namespace Go.AM
variable {P : Program} {ι : Inj} {h : AHeap} {w : World}

/-- What is to be shown of the regions that draw their order. -/
def DrawnOk (P : Program) (rec : Job → ASt → Option Ans) : Prop :=
  ∀ (ops : Array Oper) (round : Option Nat) (s : ASt) (r : Ans),
    evIf (evDrawnL P rec round ops (ops.toList.zip (Region.before ops).toList) 0 ⟨[], []⟩ s) (slotsOk ops (ops.toList.zip (Region.before ops).toList)) = some r →
    ∀ (b : Frame) (cs : List Frame) (k : List Item) (tm : Array Value) (ds : List Deferred) (ι : Inj) (w : World) (t : Nat), (round = none → b.roundOf = none) → Good P ι b.kind cs s tm ds w →
      Ends P (lone (fon b tm ds (.inRegion ops (Region.schedule true ops t) :: k)) (csAt cs s.pan) w) b k cs ι s.h w r

theorem HR.congr {u : World} (hw : u.heap = w.heap) (hh : HR ι h w) : HR ι h u :=
  ⟨by rw [hw]; exact hh.blocks, by rw [hw]; exact hh.bound, hh.apart, hh.next, hh.fresh⟩

theorem Ext.of_heap {u : World} (hw : u.heap = w.heap) (h1 : u.os = w.os) (h2 : u.output = w.output) (h3 : u.tape = w.tape) : Ext ι h w ι h u :=
  ⟨ι.le_refl, fun _ _ e => .inl e, Nat.le_refl _, by rw [hw]; exact Nat.le_refl _, fun _ _ _ => by rw [hw], fun _ _ h => h, fun _ _ h => h, fun _ _ _ => rfl, h1, h2, h3⟩

theorem Lands.pass {m : Machine} {b : Frame} {x : Item} {k : List Item} {cs : List Frame} {κ : Inj} {tm : Array Value} {ds : List Deferred} {e : AEx} (hx : x.plain = true) (he : e ≠ .norm)
    (h : Lands P m b (x :: k) cs κ tm ds w e) : Lands P m b k cs κ tm ds w e := by
  cases e with
  | norm => exact absurd rfl he
  | exit id =>
    obtain ⟨kk, h1, h2⟩ := h
    exact ⟨kk, by rw [h1]; cases x <;> simp_all [exitTo, Item.plain], h2⟩
  | goto l =>
    obtain ⟨kk, h1, h2⟩ := h
    exact ⟨kk, by rw [h1]; cases x <;> simp_all [gotoIn, Item.plain], h2⟩
  | ret => exact h
  | panic v => exact h

theorem thenDo_spec {f : ASt → Option Ans} {a : Option Ans} {r : Ans} (h : thenDo f a = some r) : (∃ v s, a = some (.norm, v, s) ∧ f s = some r) ∨ (a = some r ∧ r.1 ≠ .norm) := by
  unfold thenDo at h
  split at h
  · exact .inl ⟨_, _, rfl, h⟩
  · rename_i hn
    refine .inr ⟨h, fun e => ?_⟩
    obtain ⟨e1, v, s⟩ := r
    simp only at e
    subst e
    exact hn _ _ h

theorem round_mono {κ : Inj} {round : Option Nat} {b : Frame} (hle : ι.le κ) (h : ∀ l, round = some l → ∃ L, ι l = some L ∧ b.roundOf = some L.blk) :
    ∀ l, round = some l → ∃ L, κ l = some L ∧ b.roundOf = some L.blk := fun l hl => let ⟨L, h1, h2⟩ := h l hl; ⟨L, hle _ _ h1, h2⟩

/-- One piece of code behind another. -/
theorem codeOk_then {start start' : List Item → List Item} {fn : FuncId} {round : Option Nat} {s : ASt} {r : Ans} {a : Option Ans} {f : ASt → Option Ans} {x : Item} (hx : x.plain = true)
    (h : thenDo f a = some r) (ha : ∀ r', a = some r' → CodeOk P start fn round s r') (hf : ∀ s' r', f s' = some r' → CodeOk P (fun k => x :: k) fn round s' r')
    (hs : ∀ (b : Frame) (cs : List Frame) (k : List Item) (tm : Array Value) (ds : List Deferred) (w : World), Steps P (lone (fon b tm ds (start' k)) cs w) (lone (fon b tm ds (start (x :: k))) cs w)) :
    CodeOk P start' fn round s r := by
  intro b cs k tm ds ι w hfn hr1 hr2 hg
  rcases thenDo_spec h with ⟨v, s', h1, h2⟩ | ⟨h1, h2⟩
  · obtain ⟨κ, tm', ds', u, g1, g2, g3⟩ := ha _ h1 b cs (x :: k) tm ds ι w hfn hr1 hr2 hg
    exact Ends.trans ((hs b (csAt cs s.pan) k tm ds w).trans g3) g2 (hf s' r h2 b cs k tm' ds' κ u hfn (round_mono g2.le hr1) hr2 g1)
  · obtain ⟨κ, tm', ds', u, g1, g2, g3⟩ := ha _ h1 b cs (x :: k) tm ds ι w hfn hr1 hr2 hg
    exact ⟨κ, tm', ds', u, g1, g2, (g3.of_steps (hs b (csAt cs s.pan) k tm ds w)).pass hx h2⟩

theorem evCode_sound {rec : Job → ASt → Option Ans} (hm : P.follows .mixedOrders = true) (hrec : RecOk P rec) (hd : DrawnOk P rec) :
    ∀ (c : Code) (fn : FuncId) (round : Option Nat) (s : ASt) (r : Ans), evCode P rec c fn round s = some r → CodeOk P (fun k => .code c :: k) fn round s r := by
  intro c
  induction c with
  | skip =>
    intro fn round s r he b cs k tm ds ι w hfn hr1 hr2 hg
    have he' : some (AEx.norm, undef, s) = some r := he
    cases he'
    exact ⟨ι, tm, ds, w, hg, Ext.refl _ _ _, .one on_skip⟩
  | region id ops draw =>
    intro fn round s r he b cs k tm ds ι w hfn hr1 hr2 hg
    cases draw with
    | false => exact region_sound hrec he hr2 hg
    | true =>
      refine Ends.trans (.one on_draw) (Ext.of_heap (u := { w with drawn := w.drawn + 1 }) rfl rfl rfl rfl) ?_
      rw [hm]
      exact hd ops round s r he b cs k tm ds ι _ _ hr2 ⟨hg.regs, hg.size, hg.defs, HR.congr (w := w) rfl hg.heap, hg.pan, hg.glob⟩
  | seq x y ihx ihy =>
    intro fn round s r he
    exact codeOk_then (x := .code y) rfl he (fun r' hr' => ihx fn round s r' hr') (fun s' r' hr' => ihy fn round s' r' hr') (fun _ _ _ _ _ _ => .one on_seq)
  | cond c x y ihx ihy =>
    intro fn round s r he b cs k tm ds ι w hfn hr1 hr2 hg
    have he' : evCond (evCode P rec x fn round) (evCode P rec y fn round) s (aeval P s.regs c) = some r := he
    unfold evCond at he'
    split at he'
    · rename_i t ht
      have hev := VR_bool (operands_of (fr := fon b tm ds (.code (.cond c x y) :: k)) hg.regs hg.glob c _ ht)
      refine Ends.trans (.one (on_cond hev)) (Ext.refl _ _ _) ?_
      cases t with
      | true => exact ihx fn round s r he' b cs k tm ds ι w hfn hr1 hr2 hg
      | false => exact ihy fn round s r he' b cs k tm ds ι w hfn hr1 hr2 hg
    · cases he'
  | block id x ih =>
    intro fn round s r he b cs k tm ds ι w hfn hr1 hr2 hg
    have he' : evBlock id (evCode P rec x fn round s) = some r := he
    unfold evBlock at he'
    split at he'
    · rename_i i v s' hx
      obtain ⟨κ, tm', ds', u, g1, g2, kk, g3, g4⟩ := ih fn round s _ hx b cs (.inBlock id :: k) tm ds ι w hfn hr1 hr2 hg
      split at he'
      · rename_i hi
        obtain rfl := Nat.eq_of_beq_eq_true hi
        have he'' : some (AEx.norm, undef, s') = some r := he'
        cases he''
        refine ⟨κ, tm', ds', u, g1, g2, .head on_block (g4.trans (.one (on_exit ?_)))⟩
        rw [g3]; simp [exitTo]
      · rename_i hi
        cases he'
        refine ⟨κ, tm', ds', u, g1, g2, kk, ?_, .head on_block g4⟩
        rw [g3]
        have : (id == i) = false := by
          rw [beq_eq_false_iff_ne]
          intro e
          subst e
          have : Nat.beq id id = true := Nat.beq_refl id
          rw [this] at hi; cases hi
        simp [exitTo, this]
    · rename_i hn
      obtain ⟨κ, tm', ds', u, g1, g2, g3⟩ := ih fn round s _ he' b cs (.inBlock id :: k) tm ds ι w hfn hr1 hr2 hg
      refine ⟨κ, tm', ds', u, g1, g2, ?_⟩
      obtain ⟨e, v, s'⟩ := r
      cases e with
      | norm => exact .head on_block (Steps.trans g3 (.one on_inBlock))
      | exit i => exact absurd he' (hn i v s')
      | goto l =>
        obtain ⟨kk, g4, g5⟩ := g3
        exact ⟨kk, by rw [g4]; simp [gotoIn], .head on_block g5⟩
      | ret =>
        obtain ⟨kk, g5⟩ := g3
        exact ⟨kk, .head on_block g5⟩
      | panic p =>
        obtain ⟨kk, v', g4, g5⟩ := g3
        exact ⟨kk, v', g4, .head on_block g5⟩
  | loop x ih =>
    intro fn round s r he b cs k tm ds ι w hfn hr1 hr2 hg
    exact Ends.trans (.one on_loop) (Ext.refl _ _ _) (hrec.loop fn round x s r he b cs k tm ds ι w hfn hr1 hr2 hg)
  | rangeFunc f params assign body ih1 ih2 =>
    intro fn round s r he
    exact range_sound hrec he
  | exit id =>
    intro fn round s r he b cs k tm ds ι w hfn hr1 hr2 hg
    have he' : some (AEx.exit id, undef, s) = some r := he
    cases he'
    exact ⟨ι, tm, ds, w, hg, Ext.refl _ _ _, k, rfl, Steps.refl _ _⟩
  | scope x ih =>
    intro fn round s r he b cs k tm ds ι w hfn hr1 hr2 hg
    exact Ends.trans (.one on_scope) (Ext.refl _ _ _) (hrec.scope fn round x x s r he b cs k tm ds ι w hfn hr1 hr2 hg)
  | label l =>
    intro fn round s r he b cs k tm ds ι w hfn hr1 hr2 hg
    have he' : some (AEx.norm, undef, s) = some r := he
    cases he'
    exact ⟨ι, tm, ds, w, hg, Ext.refl _ _ _, .one on_label⟩
  | goto l =>
    intro fn round s r he b cs k tm ds ι w hfn hr1 hr2 hg
    have he' : some (AEx.goto l, undef, s) = some r := he
    cases he'
    exact ⟨ι, tm, ds, w, hg, Ext.refl _ _ _, k, rfl, Steps.refl _ _⟩
  | ret =>
    intro fn round s r he b cs k tm ds ι w hfn hr1 hr2 hg
    have he' : some (AEx.ret, undef, s) = some r := he
    cases he'
    exact ⟨ι, tm, ds, w, hg, Ext.refl _ _ _, k, Steps.refl _ _⟩
  | refuse why =>
    intro fn round s r he
    cases he

theorem loop_sound {rec : Job → ASt → Option Ans} (hm : P.follows .mixedOrders = true) (hrec : RecOk P rec) (hd : DrawnOk P rec) {fn : FuncId} {round : Option Nat} {c : Code} {s : ASt} {r : Ans}
    (he : thenDo (rec (.loop fn round c)) (evCode P rec c fn round s) = some r) : CodeOk P (fun k => .code c :: .inLoop c :: k) fn round s r := by
  intro b cs k tm ds ι w hfn hr1 hr2 hg
  rcases thenDo_spec he with ⟨v, s', h1, h2⟩ | ⟨h1, h2⟩
  · obtain ⟨κ, tm', ds', u, g1, g2, g3⟩ := evCode_sound hm hrec hd c fn round s _ h1 b cs (.inLoop c :: k) tm ds ι w hfn hr1 hr2 hg
    exact Ends.trans (Steps.trans g3 (.one on_inLoop)) g2 (hrec.loop fn round c s' r h2 b cs k tm' ds' κ u hfn (round_mono g2.le hr1) hr2 g1)
  · obtain ⟨κ, tm', ds', u, g1, g2, g3⟩ := evCode_sound hm hrec hd c fn round s _ h1 b cs (.inLoop c :: k) tm ds ι w hfn hr1 hr2 hg
    exact ⟨κ, tm', ds', u, g1, g2, g3.pass rfl h2⟩

theorem scope_sound {rec : Job → ASt → Option Ans} (hm : P.follows .mixedOrders = true) (hrec : RecOk P rec) (hd : DrawnOk P rec) {fn : FuncId} {round : Option Nat} {c body : Code} {s : ASt} {r : Ans}
    (he : evScope rec fn round body (evCode P rec c fn round s) = some r) : CodeOk P (fun k => .code c :: .inScope body :: k) fn round s r := by
  intro b cs k tm ds ι w hfn hr1 hr2 hg
  unfold evScope at he
  split at he
  · rename_i l v s' h1
    obtain ⟨κ, tm', ds', u, g1, g2, kk, g3, g4⟩ := evCode_sound hm hrec hd c fn round s _ h1 b cs (.inScope body :: k) tm ds ι w hfn hr1 hr2 hg
    split at he
    · rename_i rest hf
      refine Ends.trans (g4.trans (.one (on_goto ?_))) g2 (hrec.scope fn round rest body s' r he b cs k tm' ds' κ u hfn (round_mono g2.le hr1) hr2 g1)
      rw [g3]; simp [gotoIn, hf]
    · rename_i hf
      cases he
      exact ⟨κ, tm', ds', u, g1, g2, kk, by rw [g3]; simp [gotoIn, hf], g4⟩
  · rename_i hn
    obtain ⟨κ, tm', ds', u, g1, g2, g3⟩ := evCode_sound hm hrec hd c fn round s _ he b cs (.inScope body :: k) tm ds ι w hfn hr1 hr2 hg
    refine ⟨κ, tm', ds', u, g1, g2, ?_⟩
    obtain ⟨e, v, s'⟩ := r
    cases e with
    | norm => exact Steps.trans g3 (.one on_inScope)
    | exit i =>
      obtain ⟨kk, g4, g5⟩ := g3
      exact ⟨kk, by rw [g4]; simp [exitTo], g5⟩
    | goto l => exact absurd he (hn l v s')
    | ret => exact g3
    | panic p => exact g3

end Go.AM

namespace Go.AM
variable {P : Program} {ι : Inj} {h : AHeap} {w : World}

section moves
variable {b : Frame} {tm : Array Value} {ds : List Deferred} {k : List Item} {cs : List Frame}

theorem on_end (hr : b.roundOf = none) : step P (lone (fon b tm ds []) cs w) = .next (lone { fon b tm ds [] with mode := .returning } cs w) :=
  step_lone_go (by simp [stepG, stepG.exec, fon, hr])
theorem on_ret (hr : b.roundOf = none) : step P (lone (fon b tm ds (.code .ret :: k)) cs w) = .next (lone { fon b tm ds (.code .ret :: k) with mode := .returning } cs w) :=
  step_lone_go (by simp [stepG, stepG.exec, fon, hr])

theorem on_beginRound {l : Nat} {u : World} (hr : b.roundOf = some l) (he : (Instr.beginRound l).run P w = .ok () u) :
    step P (lone (fon b tm ds (.beginRound :: k)) cs w) = .next (lone (fon b tm ds k) cs u) := by
  refine step_lone_go ?_
  have hx : (do b.roundOf.elim (stuck "beginRound: no round") Instr.beginRound; pure .skip : Sem Next).run P w = .ok .skip u := by
    rw [hr]
    simp only [Option.elim_some, Sem.run_bind, he, Result.andThen_ok, Sem.run_pure]
  simp only [stepG, stepG.exec, fon, stepG.apply, Sem.runT_eq, hx, GStep.bare_after]
  rfl

theorem on_leave0 {l : Nat} {c : Frame} {v : Value} {u : World} (hr : b.roundOf = some l) (hk : b.kind = .normal) (he : (Instr.endRound l none).run P w = .ok v u) :
    step P (lone (fon b tm ds []) (c :: cs) w) = .next (lone (c.finish v) cs u) := by
  refine step_lone_go ?_
  simp only [stepG, stepG.exec, fon, hr, Sem.runT_eq, he, GStep.bare_after, doReturn, hk]
  rfl
theorem on_leave1 {l id : Nat} {c : Frame} {v : Value} {u : World} (hr : b.roundOf = some l) (hk : b.kind = .normal) (hx : exitTo id k = none) (he : (Instr.endRound l (some (.exit id))).run P w = .ok v u) :
    step P (lone (fon b tm ds (.code (.exit id) :: k)) (c :: cs) w) = .next (lone (c.finish v) cs u) := by
  refine step_lone_go ?_
  simp only [stepG, stepG.exec, fon, hx, Option.elim_none, hr, Sem.runT_eq, he, GStep.bare_after, doReturn, hk]
  rfl
theorem on_leave2 {l g : Nat} {c : Frame} {v : Value} {u : World} (hr : b.roundOf = some l) (hk : b.kind = .normal) (hx : gotoIn g k = none) (he : (Instr.endRound l (some (.goto g))).run P w = .ok v u) :
    step P (lone (fon b tm ds (.code (.goto g) :: k)) (c :: cs) w) = .next (lone (c.finish v) cs u) := by
  refine step_lone_go ?_
  simp only [stepG, stepG.exec, fon, hx, Option.elim_none, hr, Sem.runT_eq, he, GStep.bare_after, doReturn, hk]
  rfl
theorem on_leave3 {l : Nat} {c : Frame} {v : Value} {u : World} (hr : b.roundOf = some l) (hk : b.kind = .normal) (he : (Instr.endRound l (some .ret)).run P w = .ok v u) :
    step P (lone (fon b tm ds (.code .ret :: k)) (c :: cs) w) = .next (lone (c.finish v) cs u) := by
  refine step_lone_go ?_
  simp only [stepG, stepG.exec, fon, hr, Sem.runT_eq, he, GStep.bare_after, doReturn, hk]
  rfl

theorem on_deferCall {mode : FrameMode} {f : FuncId} {c a : Array Value} {fn : Func} (hm : mode ≠ .run) (hf : P.funcs[f]? = some fn) (hb : fn.body.isSome = true) (hn : (fn.name == "runtime.NumGoroutine") = false) :
    step P (lone { fon b tm ({ target := .fn (.func f) c, args := a } :: ds) k with mode := mode } cs w) = .next (lone (Frame.enter P f (a ++ c) .deferred) ({ fon b tm ds k with mode := mode } :: cs) w) := by
  refine step_lone_go ?_
  have hx : (invoke (.fn (.func f) c) a).run P w = .ok (.enter f (a ++ c)) w := callFunc_run hf hb hn _ _
  cases mode with
  | run => exact absurd rfl hm
  | returning =>
    simp only [stepG, fon, unwind, callDeferred, Sem.runT_eq, hx]
    rfl
  | panicking ch =>
    simp only [stepG, fon, unwind, callDeferred, Sem.runT_eq, hx]
    rfl

theorem on_take {mode : FrameMode} {r : Nat} {a : Array Value} {calls : List Deferred} {u : World} (hm : mode ≠ .run) (he : (Instr.takeDeferred r).run P w = .ok calls u) :
    step P (lone { fon b tm ({ target := .collected r, args := a } :: ds) k with mode := mode } cs w) = .next (lone { fon b tm (calls ++ ds) k with mode := mode } cs u) := by
  refine step_lone_go ?_
  cases mode with
  | run => exact absurd rfl hm
  | returning =>
    simp only [stepG, fon, unwind, Sem.runT_eq, he, GStep.bare_after]
    rfl
  | panicking ch =>
    simp only [stepG, fon, unwind, Sem.runT_eq, he, GStep.bare_after]
    rfl

/-- What becomes of a frame when a call that it deferred returns. -/
def backIn (c : Frame) : Frame := match c.mode with
  | .panicking ({ recovered := true, .. } :: older) =>
    match older.dropWhile (!·.goexit) with
    | [] => { c with mode := .returning }
    | rest => { c with mode := .panicking rest }
  | _ => c

theorem on_deferBack {fr c : Frame} {v : Value} {fn : Func} (hk : fr.kind = .deferred) (hm : fr.mode = .returning) (hd : fr.defers = []) (hf : P.funcs[fr.fn]? = some fn) (hr : (results fn fr.tmps).run P w = .ok v w) :
    step P (lone fr (c :: cs) w) = .next (lone (backIn c) cs w) := by
  refine step_lone_go ?_
  simp only [stepG, hm, unwind, hd, hf, Sem.runT_eq, hr, GStep.bare_after, doReturn, hk]
  rfl

end moves

/-! The results. -/
def resultOf (tm : Array Value) : ResultVar → Sem Value
  | .tmp t => pure (tm.getD t Go.undef)
  | .cell a t => do loadVar t (← asAddr (tm.getD a Go.undef))

theorem results_sound {regs : Tr AV} {tm : Array Value} {fn : Func} {vs : List AV} (hr : RR ι regs tm) (hb : HB ι h w) (he : aresults P regs h fn.results.toList = some vs) :
    ∃ v', VR ι (aanswer vs) v' ∧ (results fn tm).run P w = .ok v' w := by
  have key : ∀ (l : List ResultVar) (vs : List AV), aresults P regs h l = some vs → ∃ vs', VRs ι vs vs' ∧
      (l.mapM (resultOf tm)).run P w = .ok vs' w := by
    intro l
    induction l with
    | nil => intro vs hv; cases hv; exact ⟨[], rfl, rfl⟩
    | cons x l ih =>
      intro vs hv
      simp only [aresults] at hv
      split at hv
      case h_2 => cases hv
      rename_i v hx
      split at hv
      case h_2 => cases hv
      rename_i vs1 hl
      cases hv
      obtain ⟨vs', h1, h2⟩ := ih _ hl
      have hx' : ∃ v', VR ι v v' ∧ (resultOf tm x).run P w = .ok v' w := by
        cases x with
        | tmp t =>
          obtain ⟨v', a1, a2⟩ := hr t v hx
          exact ⟨v', a2, by simp [resultOf, a1]⟩
        | cell a t =>
          simp only [aresult] at hx
          split at hx
          case h_2 => cases hx
          rename_i p hp
          obtain ⟨p', a1, a2⟩ := hr a p hp
          obtain ⟨v', b1, b2⟩ := load_run hb a2 hx
          refine ⟨v', b1, ?_⟩
          unfold aload at hx
          split at hx
          case h_2 => cases hx
          rename_i b0 o0
          obtain ⟨L, hL, e⟩ := a2
          subst e
          have hp' : tm.getD a Go.undef = .pointer (some ⟨L.blk, L.base + o0, none⟩) := by simp [a1]
          simp only [resultOf, hp', Sem.run_bind]
          simpa [Instr.loadAt, Instr.sureAddr, asAddr] using b2
      obtain ⟨v', c1, c2⟩ := hx'
      exact ⟨v' :: vs', ⟨v', vs', c1, h1, rfl⟩, by rw [List.mapM_cons]; simp only [Sem.run_bind, c2, Result.andThen_ok, h2, Sem.run_pure]⟩
  obtain ⟨vs', h1, h2⟩ := key _ vs he
  have hrun : (results fn tm).run P w = .ok (if h : vs'.toArray.size = 1 then vs'.toArray[0] else .tuple vs'.toArray) w := by
    have e : results fn tm = (do let vs ← fn.results.mapM (resultOf tm); pure (if h : vs.size = 1 then vs[0] else .tuple vs)) := by
      unfold results
      congr 1
    rw [e, Array.mapM_eq_mapM_toList]
    simp only [map_eq_pure_bind, Sem.run_bind, h2, Result.andThen_ok, Sem.run_pure]
  rw [hrun]
  refine ⟨_, ?_, rfl⟩
  cases vs with
  | nil => obtain rfl : vs' = [] := h1; exact ⟨[], rfl, rfl⟩
  | cons v vs =>
    obtain ⟨v', l', a1, a2, rfl⟩ := h1
    cases vs with
    | nil => obtain rfl : l' = [] := a2; exact a1
    | cons v2 vs =>
      obtain ⟨v2', l2', b1, b2, rfl⟩ := a2
      exact ⟨_, ⟨v', _, a1, ⟨v2', l2', b1, b2, rfl⟩, rfl⟩, by simp⟩

end Go.AM

namespace Go.AM
variable {P : Program} {ι : Inj} {h : AHeap} {w : World}

theorem evDefers_sound {rec : Job → ASt → Option Ans} (hrec : RecOk P rec) {v : Option AV} {s : ASt} {r : Ans} (he : evDefers rec v s s.defs = some r) : DefersOk P v s r := by
  cases hd : s.defs with
  | cons d ds => rw [hd] at he; exact hrec.defers v s r he
  | nil =>
    rw [hd] at he
    cases v with
    | none =>
      have he' : some (AEx.norm, undef, s) = some r := he
      cases he'
      refine ⟨rfl, rfl, rfl, hd, none, rfl, ?_⟩
      intro b cs tm ds kk mode ι w hm hds hh hg
      rw [hd] at hds
      obtain rfl : ds = [] := hds
      exact ⟨ι, w, mode, hm, hh, Ext.refl _ _ _, Steps.refl _ _⟩
    | some p =>
      have he' : some (AEx.panic p, undef, s) = some r := he
      cases he'
      refine ⟨rfl, rfl, rfl, hd, some p, rfl, ?_⟩
      intro b cs tm ds kk mode ι w hm hds hh hg
      rw [hd] at hds
      obtain rfl : ds = [] := hds
      exact ⟨ι, w, mode, hm, hh, Ext.refl _ _ _, Steps.refl _ _⟩

/-- A frame that has done its body, up to its end. -/
theorem leave_sound {rec : Job → ASt → Option Ans} (hrec : RecOk P rec) {f : FuncId} {fn : Func} (hf : P.funcs[f]? = some fn) {v : Option AV} {s : ASt} {r : Ans}
    (he : evResults P fn (evDefers rec v s s.defs) = some r) {b : Frame} {cs : List Frame} {kk : List Item} {tm : Array Value} {ds : List Deferred} {mode : FrameMode} (hb : b.fn = f)
    (hm : ModeR ι v mode) (hg : Good P ι b.kind cs s tm ds w) :
    ∃ κ u, HR κ r.2.2.h u ∧ Ext ι s.h w κ r.2.2.h u ∧ PanInv κ b.kind cs r.2.2.pan ∧
      CallAns P (lone { fon b tm ds kk with mode := mode } (csAt cs s.pan) w) f b.kind (csAt cs r.2.2.pan) κ u r.2.1 r.1 := by
  unfold evResults at he
  split at he
  · rename_i x s' hd
    obtain ⟨e1, e2, e3, e4, o, e5, hrun⟩ := evDefers_sound hrec hd
    cases e5
    obtain ⟨κ, u, mode', hm', hh, hx, hs⟩ := hrun b (csAt cs s.pan) tm ds kk mode ι w hm hg.defs hg.heap hg.glob
    obtain rfl : mode' = .returning := hm'
    unfold evAnswer at he
    split at he
    case h_2 => cases he
    rename_i vs hvs
    cases he
    simp only at e1 e2 e3 hh hx
    rw [e1] at hvs
    obtain ⟨v', hv, hres⟩ := results_sound (P := P) (hg.regs.mono hx.le) hh.hb hvs
    refine ⟨κ, u, hh, hx, ?_, { fon b tm [] kk with mode := .returning }, v', hb, rfl, rfl, rfl, hv, ⟨fn, by subst hb; exact hf, hres⟩, ?_⟩
    · simp only [e3]; exact hg.pan.mono hx.le
    · simp only [e3]; exact hs
  · rename_i p x s' hd
    obtain ⟨e1, e2, e3, e4, o, e5, hrun⟩ := evDefers_sound hrec hd
    cases e5
    obtain ⟨κ, u, mode', ⟨p', hv, hm'⟩, hh, hx, hs⟩ := hrun b (csAt cs s.pan) tm ds kk mode ι w hm hg.defs hg.heap hg.glob
    subst hm'
    cases he
    simp only at e1 e2 e3 hh hx
    refine ⟨κ, u, hh, hx, ?_, { fon b tm [] kk with mode := .panicking [entry p'] }, p', hb, rfl, rfl, ⟨fn, by subst hb; exact hf⟩, hv, ?_⟩
    · simp only [e3]; exact hg.pan.mono hx.le
    · simp only [e3]; exact hs
  · cases he

theorem CallAns.of_steps {m m' : Machine} {f : FuncId} {kind : CallKind} {cs : List Frame} {v : AV} (hs : Steps P m m') : ∀ {e : AEx}, CallAns P m' f kind cs ι w v e → CallAns P m f kind cs ι w v e
  | .norm, ⟨fr, v', a, b, c, d, e, f, g⟩ => ⟨fr, v', a, b, c, d, e, f, hs.trans g⟩
  | .panic _, ⟨fr, v', a, b, c, d, e, g⟩ => ⟨fr, v', a, b, c, d, e, hs.trans g⟩
  | .exit _, h => h
  | .goto _, h => h
  | .ret, h => h

theorem call_sound {rec : Job → ASt → Option Ans} (hrec : RecOk P rec) {f : FuncId} {args : List AV} {s : ASt} {r : Ans} (he : evCall P rec f args s P.funcs[f]? = some r) : CallOk P f args s r := by
  unfold evCall at he
  split at he
  case h_2 => cases he
  rename_i fn hf
  unfold evBody at he
  split at he
  case h_2 => cases he
  rename_i body hbody
  split at he
  · cases he
  rename_i hn
  split at he
  case h_2 => cases he
  rename_i hle
  have hle' : args.length ≤ fn.ntmps := Nat.le_of_ble_eq_true hle
  refine ⟨⟨fn, hf, by rw [hbody]; rfl, hn⟩, ?_⟩
  intro kind cs args' ι w hv hh hgl hpan
  have hlen := hv.length
  let b : Frame := { fn := f, tmps := #[], todo := [], defers := [], mode := .run, kind := kind }
  let tm : Array Value := args'.toArray ++ Array.replicate (fn.ntmps - args'.length) Go.undef
  have henter : Frame.enter P f args'.toArray kind = fon b tm [] [.code body] := by
    simp [Frame.enter, fon, b, tm, hf, hbody, Go.undef]
  have hgood : Good P ι b.kind cs ⟨.ofList args, fn.ntmps, [], s.pan, s.h⟩ tm [] w := by
    refine ⟨?_, ?_, rfl, hh, hpan, hgl⟩
    · intro t v ht
      rw [Tr.get_ofList] at ht
      obtain ⟨v', h1, h2⟩ := hv.get t v ht
      have hlt : t < args'.length := (List.getElem?_eq_some_iff.1 h1).1
      exact ⟨v', by simp only [tm]; rw [Array.getElem?_append_left (by simpa using hlt)]; simpa using h1, h2⟩
    · simp [tm]; omega
  rw [henter]
  unfold evLeft at he
  split at he
  · rename_i x s' hc
    obtain ⟨κ, tm', ds', u, g1, g2, g3⟩ := hrec.code _ _ _ _ _ hc b cs [] tm [] ι w rfl (by simp) (fun _ => rfl) hgood
    obtain ⟨μ, u2, c1, c2, c3, c4⟩ := leave_sound (kk := []) hrec hf he rfl (show ModeR κ none .returning from rfl) g1
    exact ⟨μ, u2, c1, g2.trans c2, c3, c4.of_steps (Steps.trans g3 (.one (on_end rfl)))⟩
  · rename_i x s' hc
    obtain ⟨κ, tm', ds', u, g1, g2, kk, g3⟩ := hrec.code _ _ _ _ _ hc b cs [] tm [] ι w rfl (by simp) (fun _ => rfl) hgood
    obtain ⟨μ, u2, c1, c2, c3, c4⟩ := leave_sound (kk := .code .ret :: kk) hrec hf he rfl (show ModeR κ none .returning from rfl) g1
    exact ⟨μ, u2, c1, g2.trans c2, c3, c4.of_steps (Steps.trans g3 (.one (on_ret rfl)))⟩
  · rename_i p x s' hc
    obtain ⟨κ, tm', ds', u, g1, g2, kk, p', hp, g3⟩ := hrec.code _ _ _ _ _ hc b cs [] tm [] ι w rfl (by simp) (fun _ => rfl) hgood
    obtain ⟨μ, u2, c1, c2, c3, c4⟩ := leave_sound (kk := kk) hrec hf he rfl (show ModeR κ (some p) (.panicking [entry p']) from ⟨p', hp, rfl⟩) g1
    exact ⟨μ, u2, c1, g2.trans c2, c3, c4.of_steps g3⟩
  · cases he

theorem takeDeferred_run {r : Nat} {L : Loc} {calls : List ADef} (hh : HR ι h w) (hL : ι r = some L) (hg : h.get r = some (.deferred (some calls))) :
    ∃ calls' u, DRs ι calls calls' ∧ (Instr.takeDeferred L.blk).run P w = .ok calls' u ∧ HR ι (h.set r (.deferred none)) u ∧ Ext ι h w ι (h.set r (.deferred none)) u := by
  obtain ⟨l', h1, h2⟩ := hh.hb r _ L hg hL
  have hlt := hh.bound r L hL
  have hA := set_ext (k' := .deferred none) hh hL hg rfl (rowSet_setObj w (.deferred none) hlt) rfl
  refine ⟨l', _, h2, ?_, hA.1, hA.2⟩
  have hget : (getObj L.blk).run P w = .ok (.deferred (some l')) w := by simp [getObj, Sem.run, h1]
  simp only [Instr.takeDeferred, Sem.run_bind, hget, Result.andThen_ok, setObj_run _ h1 (by simp), Sem.run_pure]

theorem backIn_same {c : Frame} (h : c.mode = .returning ∨ ∃ v, c.mode = .panicking [entry v]) : backIn c = c := by
  rcases h with h | ⟨v, h⟩
  · unfold backIn; rw [h]
  · unfold backIn; rw [h]; rfl

theorem modeR_ne {v : Option AV} {mode : FrameMode} (h : ModeR ι v mode) : mode ≠ .run := by
  cases v with
  | none => rw [show mode = .returning from h]; simp
  | some v => obtain ⟨v', _, rfl⟩ := h; simp

theorem defers_sound {rec : Job → ASt → Option Ans} (hrec : RecOk P rec) {v : Option AV} {s : ASt} {r : Ans} (he : evDefersOf rec v s s.defs = some r) : DefersOk P v s r := by
  cases hd : s.defs with
  | nil =>
    rw [hd] at he
    apply evDefers_sound hrec
    rw [hd]
    exact he
  | cons d ds =>
    rw [hd] at he
    cases d with
    | collected q =>
      change evTake rec v q ds s (s.h.get q) = some r at he
      unfold evTake at he
      split at he
      case h_2 => cases he
      rename_i calls hq
      obtain ⟨e1, e2, e3, e4, o, e5, hrun⟩ := hrec.defers _ _ _ he
      refine ⟨e1, e2, e3, e4, o, e5, ?_⟩
      intro b cs tm dds kk mode ι w hm hds hh hg
      rw [hd] at hds
      obtain ⟨d', l', ⟨L, hL, rfl⟩, hl, rfl⟩ := hds
      obtain ⟨calls', u, a1, a2, a3, a4⟩ := takeDeferred_run (P := P) hh hL hq
      obtain ⟨κ, u2, mode', b1, b2, b3, b4⟩ := hrun b cs tm (calls' ++ l') kk mode ι u hm (DRs.append a1 hl) a3 hg
      exact ⟨κ, u2, mode', b1, b2, a4.trans b3, .head (on_take (modeR_ne hm) a2) b4⟩
    | call f captured args =>
      change evDeferred rec v ds s (rec (.call f (args ++ captured)) ⟨.nil, 0, [], panOf v, s.h⟩) = some r at he
      unfold evDeferred at he
      split at he
      case h_2 => cases he
      rename_i x s' hc
      obtain ⟨e1, e2, e3, e4, o, e5, hrun⟩ := hrec.defers _ _ _ he
      refine ⟨e1, e2, e3, e4, o, e5, ?_⟩
      intro b cs tm dds kk mode ι w hm hds hh hg
      rw [hd] at hds
      obtain ⟨d', l', ⟨c', a', hc', ha', rfl⟩, hl, rfl⟩ := hds
      obtain ⟨⟨fn, hf, hb, hn⟩, hcall⟩ := hrec.call _ _ _ _ hc
      have hpan : PanInv ι .deferred ({ fon b tm l' kk with mode := mode } :: cs) (panOf v) := by
        cases v with
        | none =>
          intro fr hk
          unfold tryRecover
          rw [hk]
          simp only [show mode = .returning from hm]
        | some v =>
          obtain ⟨v', hv, rfl⟩ := hm
          exact ⟨rfl, _, _, v', [], rfl, rfl, hv⟩
      obtain ⟨κ, u, a1, a2, a3, a4⟩ := hcall .deferred ({ fon b tm l' kk with mode := mode } :: cs) (a' ++ c') ι w (VRs.append ha' hc') hh hg hpan
      obtain ⟨fr, v', f1, f2, f3, f4, f5, ⟨fn', f6, f7⟩, f8⟩ := a4
      have hcs : csAt ({ fon b tm l' kk with mode := mode } :: cs) (panOf v) = { fon b tm l' kk with mode := mode } :: cs := by cases v <;> rfl
      simp only [hcs] at f8
      have hstep := on_deferCall (P := P) (b := b) (tm := tm) (ds := l') (k := kk) (cs := cs) (w := w) (c := c'.toArray) (a := a'.toArray) (modeR_ne hm) hf hb hn
      rw [show a'.toArray ++ c'.toArray = (a' ++ c').toArray from by simp] at hstep
      have fin : ∃ mode', ModeR κ (panBack v s'.pan) mode' ∧ Steps P (lone { fon b tm ({ target := .fn (.func f) c'.toArray, args := a'.toArray } :: l') kk with mode := mode } cs w) (lone { fon b tm l' kk with mode := mode' } cs u) := by
        simp only at a3 f8
        cases hp : s'.pan with
        | none =>
          rw [hp] at a3 f8
          have hv : v = none := by
            cases v with
            | none => rfl
            | some v =>
              exfalso
              obtain ⟨v', hv, rfl⟩ := hm
              have := a3 { (default : Frame) with kind := .deferred } rfl
              simp [tryRecover, entry] at this
          subst hv
          obtain rfl : mode = .returning := hm
          refine ⟨.returning, rfl, .head hstep (Steps.trans f8 (.one ?_))⟩
          have := on_deferBack (P := P) (c := { fon b tm l' kk with mode := FrameMode.returning }) (cs := cs) f2 f3 f4 f6 f7
          rw [backIn_same (.inl rfl)] at this
          exact this
        | live y =>
          rw [hp] at a3 f8
          obtain ⟨_, c, rest, y', older, hcc, hmode, hy⟩ := a3
          cases hcc
          cases v with
          | none =>
            obtain rfl : mode = .returning := hm
            cases hmode
          | some v =>
            obtain ⟨v', hv, rfl⟩ := hm
            refine ⟨.panicking [entry v'], ⟨v', hv.mono a2.le, rfl⟩, .head hstep (Steps.trans f8 (.one ?_))⟩
            have := on_deferBack (P := P) (c := { fon b tm l' kk with mode := FrameMode.panicking [entry v'] }) (cs := cs) f2 f3 f4 f6 f7
            rw [backIn_same (.inr ⟨v', rfl⟩)] at this
            exact this
        | recovered y =>
          rw [hp] at a3 f8
          obtain ⟨_, c, rest, y', older, hcc, hmode, hy⟩ := a3
          cases hcc
          cases v with
          | none =>
            obtain rfl : mode = .returning := hm
            cases hmode
          | some v =>
            obtain ⟨v', hv, rfl⟩ := hm
            refine ⟨.returning, rfl, .head hstep (Steps.trans f8 (.one ?_))⟩
            exact on_deferBack (P := P) (c := { fon b tm l' kk with mode := FrameMode.panicking [{ v := v', recovered := true }] }) (cs := cs) f2 f3 f4 f6 f7
      obtain ⟨mode', hm', hst⟩ := fin
      obtain ⟨μ, u2, mode2, b1, b2, b3, b4⟩ := hrun b cs tm l' kk mode' κ u hm' (hl.mono a2.le) a1 (hg.mono a2.le)
      exact ⟨μ, u2, mode2, b1, b2, a2.trans b3, hst.trans b4⟩

end Go.AM

namespace Go.AM
variable {P : Program} {ι : Inj} {h : AHeap} {w : World}

theorem setParams_spec : ∀ {ts : List Tmp} {vs : List AV} {regs regs' : Tr AV} {size : Nat}, setParams regs size ts vs = some regs' → ∀ {tm : Array Value} {vs' : List Value}, RR ι regs tm → tm.size = size → VRs ι vs vs' →
    ts.length = vs'.length ∧ RR ι regs' ((ts.zip vs').foldl (fun tmps p => tmps.setIfInBounds p.1 p.2) tm) ∧ ((ts.zip vs').foldl (fun tmps p => tmps.setIfInBounds p.1 p.2) tm).size = size
  | [], [], _, _, _, he, tm, vs', hr, hs, hv => by
    obtain rfl : vs' = [] := hv
    cases he
    exact ⟨rfl, hr, hs⟩
  | [], _ :: _, _, _, _, he, _, _, _, _, _ => by cases he
  | _ :: _, [], _, _, _, he, _, _, _, _, _ => by cases he
  | t :: ts, v :: vs, regs, regs', size, he, tm, vs', hr, hs, hv => by
    obtain ⟨v', l', h1, h2, rfl⟩ := hv
    simp only [setParams] at he
    split at he
    · rename_i hlt
      obtain ⟨a1, a2, a3⟩ := setParams_spec he (tm := tm.setIfInBounds t v') (hr.put h1 (by rw [hs]; exact hlt)) (by simpa using hs) h2
      exact ⟨by simp [a1], a2, a3⟩
    · cases he

theorem yield_run {l : Nat} {L : Loc} {x : ALoop} {args : List AV} {args' : List Value} {regs : Tr AV} (hb : HB ι h w) (hL : ι l = some L) (hg : h.get l = some (.loop x)) (hv : VRs ι args args')
    (hs : setParams x.tmps x.size x.params args = some regs) :
    ∃ tm, RR ι regs tm ∧ tm.size = x.size ∧ (Instr.yield L.blk args'.toArray).run P w = .ok (.round L.blk x.fn tm x.assign x.body) w := by
  obtain ⟨tm, Ld, h1, h2, h3, h4⟩ := getLoop_run (P := P) hb hL hg
  obtain ⟨a1, a2, a3⟩ := setParams_spec hs h2 h3 hv
  refine ⟨_, a2, a3, ?_⟩
  have hz : ¬ (args'.toArray.size ≠ x.params.toArray.size) := by simp [a1]
  simp only [Instr.yield, Sem.run_bind, h4, Result.andThen_ok, Sem.run_ite]
  rw [if_neg hz]
  simp only [Sem.run_pure]
  congr 2
  rw [← Array.foldl_toList]
  simp

theorem beginRound_run {l : Nat} {L : Loc} {x : ALoop} (hh : HR ι h w) (hL : ι l = some L) (hg : h.get l = some (.loop x)) (hst : x.state = .ready) :
    ∃ u, (Instr.beginRound L.blk).run P w = .ok () u ∧ HR ι (h.set l (.loop { x with state := .busy })) u ∧ Ext ι h w ι (h.set l (.loop { x with state := .busy })) u := by
  obtain ⟨tm, Ld, h1, h2, h3, h4⟩ := getLoop_run (P := P) hh.hb hL hg
  have hlt := hh.bound l L hL
  obtain ⟨_, _, _, _, _, hobj⟩ := hh.hb l _ L hg hL
  have hA := set_ext (k' := .loop { x with state := .busy }) hh hL hg rfl
    (rowSet_setObj w (.loop { state := .busy, pending := x.pending, fn := x.fn, tmps := tm, params := x.params.toArray, assign := x.assign, body := x.body, defers := Ld.blk }) hlt) ⟨tm, Ld, h1, h2, h3, rfl⟩
  refine ⟨_, ?_, hA.1, hA.2⟩
  simp only [Instr.beginRound, Sem.run_bind, h4, Result.andThen_ok, setObj_run _ hobj (by simp), hst, Sem.run_pure]

theorem endRound_run {l : Nat} {L : Loc} {x : ALoop} (jump : Option Code) (hh : HR ι h w) (hL : ι l = some L) (hg : h.get l = some (.loop x)) :
    ∃ u, (Instr.endRound L.blk jump).run P w = .ok (.bool jump.isNone) u ∧ HR ι (h.set l (.loop { x with state := if jump.isNone then .ready else .done, pending := jump })) u ∧
      Ext ι h w ι (h.set l (.loop { x with state := if jump.isNone then .ready else .done, pending := jump })) u := by
  obtain ⟨tm, Ld, h1, h2, h3, h4⟩ := getLoop_run (P := P) hh.hb hL hg
  have hlt := hh.bound l L hL
  obtain ⟨_, _, _, _, _, hobj⟩ := hh.hb l _ L hg hL
  have hA := set_ext (k' := .loop { x with state := if jump.isNone then .ready else .done, pending := jump }) hh hL hg rfl
    (rowSet_setObj w (.loop { state := if jump.isNone then .ready else .done, pending := jump, fn := x.fn, tmps := tm, params := x.params.toArray, assign := x.assign, body := x.body, defers := Ld.blk }) hlt) ⟨tm, Ld, h1, h2, h3, rfl⟩
  refine ⟨_, ?_, hA.1, hA.2⟩
  simp only [Instr.endRound, Sem.run_bind, h4, Result.andThen_ok, setObj_run _ hobj (by simp), Sem.run_pure]

theorem BackAns.of_steps {m m' : Machine} {c : Frame} {rest : List Frame} {v : AV} (hs : Steps P m m') : ∀ {e : AEx}, BackAns P m' c rest ι w v e → BackAns P m c rest ι w v e
  | .norm, ⟨v', a, g⟩ => ⟨v', a, hs.trans g⟩
  | .panic _, ⟨v', a, g⟩ => ⟨v', a, hs.trans g⟩
  | .exit _, h => h
  | .goto _, h => h
  | .ret, h => h

/-- A round that has done its body. -/
theorem roundLeft_sound {l : Nat} {L : Loc} {fn : FuncId} {s : ASt} {e : AEx} {h0 : AHeap} {r : Ans} (he : evRoundLeft P l fn s e h0 (h0.get l) = some r) {b : Frame} {c : Frame} {rest : List Frame} {tm : Array Value}
    (hL : ι l = some L) (hh : HR ι h0 w) (hr : b.roundOf = some L.blk) (hk : b.kind = .normal) (hfn : b.fn = fn) {m : Machine} (hl : Lands P m b [] (c :: rest) ι tm [] w e) :
    ∃ u, HR ι r.2.2.h u ∧ Ext ι h0 w ι r.2.2.h u ∧ BackAns P m c rest ι u r.2.1 r.1 := by
  unfold evRoundLeft at he
  split at he
  case h_2 => cases he
  rename_i x hg
  split at he
  · obtain ⟨u, a1, a2, a3⟩ := endRound_run (P := P) none hh hL hg
    have he' : some (AEx.norm, AV.bool true, s.withH (h0.set l (.loop { x with state := .ready, pending := none }))) = some r := he
    cases he'
    exact ⟨u, a2, a3, _, rfl, Steps.trans hl (.one (on_leave0 hr hk a1))⟩
  · rename_i id
    obtain ⟨u, a1, a2, a3⟩ := endRound_run (P := P) (some (.exit id)) hh hL hg
    have he' : some (AEx.norm, AV.bool false, s.withH (h0.set l (.loop { x with state := .done, pending := some (.exit id) }))) = some r := he
    cases he'
    obtain ⟨kk, g1, g2⟩ := hl
    exact ⟨u, a2, a3, _, rfl, g2.trans (.one (on_leave1 hr hk g1 a1))⟩
  · rename_i g
    obtain ⟨u, a1, a2, a3⟩ := endRound_run (P := P) (some (.goto g)) hh hL hg
    have he' : some (AEx.norm, AV.bool false, s.withH (h0.set l (.loop { x with state := .done, pending := some (.goto g) }))) = some r := he
    cases he'
    obtain ⟨kk, g1, g2⟩ := hl
    exact ⟨u, a2, a3, _, rfl, g2.trans (.one (on_leave2 hr hk g1 a1))⟩
  · obtain ⟨u, a1, a2, a3⟩ := endRound_run (P := P) (some .ret) hh hL hg
    have he' : some (AEx.norm, AV.bool false, s.withH (h0.set l (.loop { x with state := .done, pending := some .ret }))) = some r := he
    cases he'
    obtain ⟨kk, g2⟩ := hl
    exact ⟨u, a2, a3, _, rfl, g2.trans (.one (on_leave3 hr hk a1))⟩
  · rename_i p
    unfold roundPanic at he
    split at he
    case h_2 => cases he
    rename_i f hf
    cases he
    obtain ⟨kk, p', g1, g2⟩ := hl
    exact ⟨w, hh, Ext.refl _ _ _, p', g1, g2.trans (.one (step_leave_panicked (P := P) (c := c) ⟨rfl, rfl, f, by subst hfn; exact hf⟩))⟩

theorem yield_sound {rec : Job → ASt → Option Ans} (hrec : RecOk P rec) {l : Nat} {args : List AV} {s : ASt} {r : Ans} (he : evYield P rec l args s (s.h.get l) = some r) : YieldOk P l args s r := by
  intro c rest L args' ι w hL hv hh hgl
  unfold evYield at he
  split at he
  case h_2 => cases he
  rename_i x hg
  unfold evRound at he
  split at he
  case h_2 => cases he
  rename_i regs hs
  obtain ⟨tm, h1, h2, h3⟩ := yield_run (P := P) hh.hb hL hg hv hs
  let b : Frame := { fn := x.fn, tmps := #[], todo := [], defers := [], mode := .run, kind := .normal, roundOf := some L.blk }
  have hround : Frame.round L.blk x.fn tm x.assign x.body .normal = fon b tm [] [.code x.assign, .beginRound, .code x.body] := rfl
  have hgood : Good P ι b.kind (c :: rest) ⟨regs, x.size, [], .none, s.h⟩ tm [] w := ⟨h1, h2, rfl, hh, panInv_normal _, hgl⟩
  unfold evRoundBegin at he
  split at he
  case h_2 => cases he
  rename_i y s1 ha
  obtain ⟨κ, tm1, ds1, u1, g1, g2, g3⟩ := hrec.code _ _ _ _ _ ha b (c :: rest) [.beginRound, .code x.body] tm [] ι w rfl (fun l' hl' => ⟨L, by cases hl'; exact hL, rfl⟩) (by simp) hgood
  unfold evBusy at he
  split at he
  case h_2 => cases he
  rename_i x1 hg1
  split at he
  case h_2 => cases he
  rename_i hst
  have hL1 := g2.le _ _ hL
  obtain ⟨u2, c1, c2, c3⟩ := beginRound_run (P := P) g1.heap hL1 hg1 hst
  have hp1 : s1.pan = .none := g1.pan.normal
  have hgood2 : Good P κ b.kind (c :: rest) (s1.withH (s1.h.set l (.loop { x1 with state := .busy }))) tm1 ds1 u2 := ⟨g1.regs, g1.size, g1.defs, c2, g1.pan, g1.glob⟩
  unfold evRoundEnd at he
  split at he
  case h_2 => cases he
  rename_i e v2 s2 hbody
  obtain ⟨μ, tm2, ds2, u3, d1, d2, d3⟩ := hrec.code _ _ _ _ _ hbody b (c :: rest) [] tm1 ds1 κ u2 rfl (fun l' hl' => ⟨L, by cases hl'; exact hL1, rfl⟩) (by simp) hgood2
  split at he
  case h_2 => cases he
  rename_i hdefs
  have hds2 : ds2 = [] := by
    have := d1.defs
    simp only [hdefs] at this
    exact this
  subst hds2
  have hp2 : s2.pan = .none := d1.pan.normal
  simp only at g3 d2 d3 hp2
  rw [hp1] at g3
  rw [hp2] at d3
  have hp3 : (s1.withH (s1.h.set l (.loop { x1 with state := .busy }))).pan = .none := hp1
  rw [hp3] at d3
  have hsteps : Steps P (lone (fon b tm [] [.code x.assign, .beginRound, .code x.body]) (c :: rest) w) (lone (fon b tm1 ds1 [.code x.body]) (c :: rest) u2) := Steps.trans g3 (.one (on_beginRound rfl c1))
  obtain ⟨u, r1, r2, r3⟩ := roundLeft_sound (ι := μ) he (d2.le _ _ hL1) d1.heap rfl rfl rfl (d3.of_steps hsteps)
  exact ⟨μ, u, r1, ((g2.trans c3).trans d2).trans r2, x.fn, tm, x.assign, x.body, h3, by rw [hround]; exact r3⟩

/-- The evaluator, shown sound but for the regions that draw their order. -/
theorem evF_ok {rec : Job → ASt → Option Ans} (hm : P.follows .mixedOrders = true) (hrec : RecOk P rec) (hd : DrawnOk P rec) : RecOk P (evF P rec) where
  code := fun fn round c s r he => evCode_sound hm hrec hd c fn round s r he
  loop := fun _ _ _ _ _ he => loop_sound hm hrec hd he
  scope := fun _ _ _ _ _ _ he => scope_sound hm hrec hd he
  call := fun _ _ _ _ he => call_sound hrec he
  ncall := fun _ _ _ _ he => (call_sound hrec he).normal
  yield := fun _ _ _ _ he => yield_sound hrec he
  defers := fun _ _ _ he => defers_sound hrec he

theorem ev_ok (hm : P.follows .mixedOrders = true) (hd : ∀ rec, RecOk P rec → DrawnOk P rec) : ∀ n, RecOk P (ev P n)
  | 0 => ⟨fun _ _ _ _ _ he => (by cases he), fun _ _ _ _ _ he => (by cases he), fun _ _ _ _ _ _ he => (by cases he), fun _ _ _ _ he => (by cases he), fun _ _ _ _ he => (by cases he), fun _ _ _ _ he => (by cases he), fun _ _ _ he => (by cases he)⟩
  | n + 1 => evF_ok hm (ev_ok hm hd n) (hd _ (ev_ok hm hd n))

end Go.AM
