/- Each operation of the evaluator has the machine's outcome; condition: the memories correspond. -/
import Derived.Test.YtcplpfnieabelaaGreatDoorAmB
import Derived.Lib.ConvBytes
import Derived.Laws.BytesArg
namespace Go.AM
variable {P : Program} {ι : Inj} {h : AHeap}

def PureR (P : Program) (ι : Inj) (ρ : Operand → Value) (o : Oper) (v : AV) : Prop := ∃ v', VR ι v v' ∧ ∀ w : World, (execOp ρ o).run P w = .ok (.value v') w

def AllocR (P : Program) (ι : Inj) (ρ : Operand → Value) (o : Oper) (h : AHeap) (v : AV) (k : ABlk) : Prop :=
  ∀ w : World, ∃ obj u size extra v', Pushed w u obj ∧ (execOp ρ o).run P w = .ok (.value v') u ∧
    ∀ κ : Inj, ι.le κ → κ h.next = some ⟨w.heap.size, 0, size, extra⟩ → BR κ ⟨w.heap.size, 0, size, extra⟩ (some obj) k ∧ VR κ v v'

def ReadR (P : Program) (ι : Inj) (ρ : Operand → Value) (o : Oper) (h : AHeap) (v : AV) : Prop :=
  ∀ w : World, HB ι h w → ∃ v', VR ι v v' ∧ (execOp ρ o).run P w = .ok (.value v') w

def Operands (P : Program) (ι : Inj) (regs : Tr AV) (ρ : Operand → Value) : Prop := ∀ x a, aeval P regs x = some a → VR ι a (ρ x)

variable {regs : Tr AV} {ρ : Operand → Value} {o : Oper}

theorem oval_spec {r : Option AV} {v : AV} {h' : AHeap} (he : oval h r = .val v h') : r = some v ∧ h' = h := by
  cases r with
  | none => simp [oval] at he
  | some a => simp only [oval, AOut.val.injEq] at he; exact ⟨by rw [he.1], he.2.symm⟩

theorem x1_spec {f : AV → AOut} {a : Option AV} {r : AOut} (he : x1 f a = r) (hr : r ≠ .fail) : ∃ x, a = some x ∧ f x = r := by
  cases a with
  | none => exact absurd he.symm hr
  | some x => exact ⟨x, rfl, he⟩

theorem x2_spec {f : AV → AV → AOut} {a b : Option AV} {r : AOut} (he : x2 f b a = r) (hr : r ≠ .fail) : ∃ x y, a = some x ∧ b = some y ∧ f x y = r := by
  cases a with
  | none => exact absurd he.symm hr
  | some x =>
    cases b with
    | none => exact absurd he.symm hr
    | some y => exact ⟨x, y, rfl, rfl, he⟩

theorem x3_spec {f : AV → AV → AV → AOut} {a b c : Option AV} {r : AOut} (he : x3 f b c a = r) (hr : r ≠ .fail) : ∃ x y z, a = some x ∧ b = some y ∧ c = some z ∧ f x y z = r := by
  cases a with
  | none => exact absurd he.symm hr
  | some x =>
    cases b with
    | none => exact absurd he.symm hr
    | some y =>
      cases c with
      | none => exact absurd he.symm hr
      | some z => exact ⟨x, y, z, rfl, rfl, rfl, he⟩

theorem val_ne {v : AV} {h : AHeap} : AOut.val v h ≠ .fail := by simp

theorem aevals_VRs (hρ : Operands P ι regs ρ) : ∀ {l : List Operand} {r : List AV}, aevals P regs l = some r → VRs ι r (l.map ρ)
  | [], r, h => by simp only [aevals, Option.some.injEq] at h; subst h; rfl
  | x :: l, r, h => by
    simp only [aevals] at h
    split at h
    · rename_i v hv
      split at h
      · rename_i vs hvs
        simp only [Option.some.injEq] at h; subst h
        exact ⟨_, _, hρ x v hv, aevals_VRs hρ hvs, rfl⟩
      · simp at h
    · simp at h

theorem aopt_OR (hρ : Operands P ι regs ρ) {x : Option Operand} {r : Option AV} (h : aopt P regs x = some r) : OR ι r (x.map ρ) := by
  cases x with
  | none => simp only [aopt, Option.some.injEq] at h; subst h; rfl
  | some x =>
    simp only [aopt] at h
    split at h
    · rename_i v hv
      simp only [Option.some.injEq] at h; subst h
      exact ⟨_, hρ x v hv, rfl⟩
    · simp at h

theorem move_sound {x : Operand} (ho : o.op = .move x ∨ o.op = .assign x) (hρ : Operands P ι regs ρ) {v : AV} (hv : aeval P regs x = some v) : PureR P ι ρ o v :=
  ⟨ρ x, hρ x v hv, fun w => by rcases ho with ho | ho <;> simp [execOp, ho]⟩

theorem pick_sound {c a b : Operand} (ho : o.op = .pick c a b) (hρ : Operands P ι regs ρ) {v : AV} {h' : AHeap} (he : xPick P regs h a b (aeval P regs c) = .val v h') : h' = h ∧ PureR P ι ρ o v := by
  unfold xPick at he
  split at he
  · rename_i hc
    obtain ⟨e1, e2⟩ := oval_spec he
    have hc' : ρ c = .bool true := hρ c _ hc
    exact ⟨e2, ρ a, hρ a v e1, fun w => by simp [execOp, ho, hc', asBool]⟩
  · rename_i hc
    obtain ⟨e1, e2⟩ := oval_spec he
    have hc' : ρ c = .bool false := hρ c _ hc
    exact ⟨e2, ρ b, hρ b v e1, fun w => by simp [execOp, ho, hc', asBool]⟩
  · simp at he

theorem pushed_newRow (w : World) (e : TypeId) (cs : Array Value) : Pushed w { w with heap := w.heap.push (.cells cs e) } (.cells cs e) := pushed_push rfl rfl rfl rfl

theorem xVar_spec {z : Option AV} {v : AV} {h' : AHeap} (he : xVar h z = .val v h') : ∃ x, z = some x ∧ v = .ptr h.next 0 ∧ h' = h.new (.cells x.cells false true) := by
  cases z with
  | none => simp [xVar] at he
  | some x => simp only [xVar, AOut.val.injEq] at he; exact ⟨x, rfl, he.1.symm, he.2.symm⟩

theorem alloc_sound {t : TypeId} (ho : o.op = .alloc t) {z : AV} (hz : tyZero P t = some z) : AllocR P ι ρ o h (.ptr h.next 0) (.cells z.cells false true) := by
  intro w
  obtain ⟨z', _, hz', hr⟩ := tyZero_run hz ι
  obtain ⟨zc, hzc, ez⟩ := (hz' ι).cells
  refine ⟨.cells zc.toArray t, _, z.cells.length, 0, .pointer (some ⟨w.heap.size, 0, none⟩), pushed_newRow w t zc.toArray, ?_, ?_⟩
  · simp [execOp, ho, Instr.alloc, hr, newVar, newRow, ez]
  · intro κ hle hk
    obtain ⟨zc', hzc', ez'⟩ := (hz' κ).cells
    have : zc' = zc := by rw [ez] at ez'; simpa using ez'.symm
    subst this
    refine ⟨?_, ⟨_, hk, by simp⟩⟩
    have := BR_row (ι := κ) (e := t) (blk := w.heap.size) (rest := []) (ex := true) hzc' (fun _ => rfl) rfl
    simpa using this

theorem box_sound {t : TypeId} {x : Operand} (ho : o.op = .box t x) (hρ : Operands P ι regs ρ) {a : AV} (ha : aeval P regs x = some a) : AllocR P ι ρ o h (.ptr h.next 0) (.cells a.cells false true) := by
  intro w
  obtain ⟨zc, hzc, ez⟩ := (hρ x a ha).cells
  refine ⟨.cells zc.toArray t, _, a.cells.length, 0, .pointer (some ⟨w.heap.size, 0, none⟩), pushed_newRow w t zc.toArray, ?_, ?_⟩
  · simp [execOp, ho, Instr.box, newVar, newRow, ez]
  · intro κ hle hk
    refine ⟨?_, ⟨_, hk, by simp⟩⟩
    have := BR_row (ι := κ) (e := t) (blk := w.heap.size) (rest := []) (ex := true) (VRs.mono hle _ hzc) (fun _ => rfl) rfl
    simpa using this

theorem build_sound {t : TypeId} {parts : Array (Nat × Operand)} (ho : o.op = .build t parts) (hρ : Operands P ι regs ρ) {v : AV} {h' : AHeap} (he : xBuild P h t (aparts P regs parts.toList) = .val v h') :
    h' = h ∧ PureR P ι ρ o v := by
  unfold xBuild at he
  split at he
  · rename_i ps hps
    obtain ⟨e1, e2⟩ := oval_spec he
    obtain ⟨v', hv, hr⟩ := build_run (PartsR.map hρ hps) e1
    refine ⟨e2, v', hv, fun w => ?_⟩
    have : (parts.map fun (i, x) => (i, ρ x)) = (parts.toList.map fun (i, x) => (i, ρ x)).toArray := by apply Array.ext'; simp
    simp only [execOp, ho, this, Sem.run_bind, hr, Result.andThen_ok, Sem.run_pure]
  · simp at he

theorem row_alloc {w : World} {e n len : Nat} {cs : List AV} {cs' : List Value} (hv : VRs ι cs cs') (_ : n * len = n * len) :
    ∀ κ : Inj, ι.le κ → κ h.next = some ⟨w.heap.size, 0, cs.length, 0⟩ →
      BR κ ⟨w.heap.size, 0, cs.length, 0⟩ (some (.cells cs'.toArray e)) (.cells cs false true) ∧ VR κ (.slice h.next 0 len len n) (.slice (some ⟨w.heap.size, 0, none⟩) len len) := by
  intro κ hle hk
  refine ⟨?_, ⟨_, 0, 0, hk, Nat.le_refl _, .inl rfl, .inr (by simp), by simp⟩⟩
  have := BR_row (ι := κ) (e := e) (blk := w.heap.size) (rest := []) (ex := true) (VRs.mono hle _ hv) (fun _ => rfl) rfl
  simpa using this

theorem rep_run {z : AV} {z' : Value} {zc : List Value} (hzc : VRs ι z.cells zc) (n size : Nat) (hs : zc.length = size) (hz : z'.cells = zc.toArray) :
    VRs ι (rep n z.cells) (List.replicate n zc).flatten ∧ ((Array.range (n * size)).map fun i => z'.cells[i % z'.cells.size]!) = (List.replicate n zc).flatten.toArray := by
  refine ⟨hzc.rep n, ?_⟩
  rw [hz, ← hs]
  exact zeros_eq zc n

theorem buildSlice_sound {t : TypeId} {len : Nat} {parts : Array (Nat × Operand)} (ho : o.op = .buildSlice t len parts) (hρ : Operands P ι regs ρ) {v : AV} {h' : AHeap}
    (he : xBuildSlice P h t len (aparts P regs parts.toList) = .val v h') : ∃ k, h' = h.new k ∧ AllocR P ι ρ o h v k := by
  unfold xBuildSlice at he
  split at he
  · rename_i ps hps
    split at he
    · rename_i e hel
      unfold xBuildElem at he
      split at he
      · rename_i n hn
        split at he
        · rename_i z hz
          split at he
          · rename_i hlim
            unfold xRow at he
            split at he
            · rename_i cs hcs
              simp only [AOut.val.injEq] at he
              obtain ⟨rfl, rfl⟩ := he
              obtain ⟨z', hzv, _, hzr⟩ := tyZero_run hz ι
              obtain ⟨zc, hzc, ez⟩ := hzv.cells
              have hmap : (parts.map fun (i, x) => (i, ρ x)) = (parts.toList.map fun (i, x) => (i, ρ x)).toArray := by apply Array.ext'; simp
              obtain ⟨hzl, hcs'⟩ : z.cells.length = n ∧ afill (fun i => some (i * n, n)) (rep len z.cells) ps = some cs := by
                split at hcs
                · rename_i hl; exact ⟨hasLen_spec hl, hcs⟩
                · simp at hcs
              obtain ⟨hv1, he1⟩ := rep_run (z := z) (z' := z') hzc len n (by rw [← hzc.length]; exact hzl) ez
              obtain ⟨r', hr', hf⟩ := afill_run (PartsR.map hρ hps) hv1 hcs'
              refine ⟨_, rfl, fun w => ⟨.cells r'.toArray e, _, cs.length, 0, .slice (some ⟨w.heap.size, 0, none⟩) len len, pushed_newRow w e r'.toArray, ?_, row_alloc hr' rfl⟩⟩
              have hne : ¬ (len * n > 2 ^ 24) := by
                have : (2 : Nat) ^ 20 ≤ 2 ^ 24 := by decide
                omega
              simp only [execOp, ho, hmap, Instr.buildSlice, Sem.run_bind, und_run (elemOf_und hel), tySize_run hn, Result.andThen_ok, Sem.run_ite]
              rw [if_neg hne]
              by_cases h0 : len * n = 0
              · have e0 : ((Array.range (len * n)).map fun i => (#[] : Array Value)[i % (#[] : Array Value).size]!) = (List.replicate len zc).flatten.toArray := by
                  rw [← he1, h0]; simp
                simp only [h0, if_true, Sem.run_pure, Result.andThen_ok]
                rw [h0] at e0
                simp only [e0, hf, newRow, Sem.run_bind, run_newObj, Result.andThen_ok, Sem.run_pure]
              · simp only [h0, if_false, Sem.run_bind, hzr, Result.andThen_ok, Sem.run_pure, he1, hf, newRow, run_newObj]
            · simp at he
          · simp at he
        · simp at he
      · simp at he
    · simp at he
  · simp at he

end Go.AM

namespace Go.AM
variable {P : Program} {ι : Inj} {h : AHeap} {regs : Tr AV} {ρ : Operand → Value} {o : Oper}

theorem makeSlice_sound {t : TypeId} {l c : Operand} (ho : o.op = .makeSlice t l c) (hρ : Operands P ι regs ρ) {v : AV} {h' : AHeap}
    (he : x2 (xMakeSlice P h t) (aeval P regs c) (aeval P regs l) = .val v h') : ∃ k, h' = h.new k ∧ AllocR P ι ρ o h v k := by
  obtain ⟨x, y, hx, hy, he⟩ := x2_spec he val_ne
  unfold xMakeSlice at he
  split at he
  · rename_i e hel
    split at he
    · rename_i ln hln
      split at he
      · rename_i cn hcn
        unfold xMakeElem at he
        split at he
        · rename_i n hn
          split at he
          · rename_i z hz
            split at he
            · rename_i bytes hb
              split at he
              · rename_i hlim
                obtain ⟨hl1, hl2, hl3, hl4⟩ := hlim
                simp only [AOut.val.injEq] at he
                obtain ⟨rfl, rfl⟩ := he
                obtain ⟨kl, el⟩ := aslot_spec (hρ l x hx) hln
                obtain ⟨kc, ec⟩ := aslot_spec (hρ c y hy) hcn
                obtain ⟨z', hzv, _, hzr⟩ := tyZero_run hz ι
                obtain ⟨zc, hzc, ez⟩ := hzv.cells
                obtain ⟨i, hib, hir⟩ := tyBytes_run hb
                obtain ⟨hv1, he1⟩ := rep_run (z := z) (z' := z') hzc cn n (by rw [← hzc.length]; exact hasLen_spec hl4) ez
                refine ⟨_, rfl, fun w => ⟨.cells (List.replicate cn zc).flatten.toArray e, _, (rep cn z.cells).length, 0, .slice (some ⟨w.heap.size, 0, none⟩) ln cn, pushed_newRow w e _, ?_, ?_⟩⟩
                · have w1 : IntKind.i64.wrap (ln : Int) = ln := by rw [← wrapA_eq]; simp only [wrapA]; rw [if_pos (by omega)]
                  have w2 : IntKind.i64.wrap (cn : Int) = cn := by rw [← wrapA_eq]; simp only [wrapA]; rw [if_pos (by omega)]
                  have t1 : (decide ((cn : Int) < 0) || decide (((bytes : Nat) : Int) * (cn : Int) > 2 ^ 48)) = false := by
                    rw [Bool.or_eq_false_iff]
                    refine ⟨by simp, ?_⟩
                    rw [decide_eq_false_iff_not]
                    have : ((bytes : Nat) : Int) * (cn : Int) = ((cn * bytes : Nat) : Int) := by rw [Int.natCast_mul, Int.mul_comm]
                    rw [this]; omega
                  have t2 : ¬ ((decide ((ln : Int) < 0) || decide ((ln : Int) > (cn : Int))) = true) := by simp; omega
                  have t3 : ¬ (((decide ((cn : Int) < 0) || decide (((bytes : Nat) : Int) * (cn : Int) > 2 ^ 48)) || decide ((ln : Int) < 0) || decide ((ln : Int) > (cn : Int))) = true) := by
                    rw [t1]; simp; omega
                  simp only [execOp, ho, el, ec, Instr.makeSlice, Sem.run_bind, und_run (elemOf_und hel), Result.andThen_ok, asInt, asIntOf, Sem.run_pure, hir, w1, w2, hib, Sem.run_ite]
                  rw [if_neg t3]
                  simp only [Result.andThen_ok, run_askRoom, tySize_run hn, Int.toNat_natCast]
                  by_cases h0 : cn * n = 0
                  · have e0 : ((Array.range (cn * n)).map fun i => (#[] : Array Value)[i % (#[] : Array Value).size]!) = (List.replicate cn zc).flatten.toArray := by
                      rw [← he1, h0]; simp
                    simp only [h0, if_true]
                    rw [h0] at e0
                    simp only [e0, newRow, Sem.run_bind, run_newObj, Result.andThen_ok, Sem.run_pure]
                  · simp only [h0, if_false, Sem.run_bind, hzr, Result.andThen_ok, Sem.run_pure, he1, newRow, run_newObj]
                · intro κ hle hk
                  have := (row_alloc (w := w) (e := e) (n := n) (len := cn) hv1 rfl κ hle hk).1
                  refine ⟨this, _, 0, 0, hk, hl1, .inl rfl, .inr (by simp), by simp⟩
              · simp at he
            · simp at he
          · simp at he
        · simp at he
      · simp at he
    · simp at he
  · simp at he

theorem makeMap_sound {t : TypeId} {r : Option Operand} (ho : o.op = .makeMap t r) (hρ : Operands P ι regs ρ) {v : AV} {h' : AHeap} (he : xMap P h t (aopt P regs r) = .val v h') :
    ∃ k, h' = h.new k ∧ AllocR P ι ρ o h v k := by
  have fin : ∀ w : World, (execOp ρ o).run P w = .ok (.value (.map (some w.heap.size))) { w with heap := w.heap.push (.map #[] 0) } →
      ∃ obj u size extra v', Pushed w u obj ∧ (execOp ρ o).run P w = .ok (.value v') u ∧ ∀ κ : Inj, ι.le κ → κ h.next = some ⟨w.heap.size, 0, size, extra⟩ →
        BR κ ⟨w.heap.size, 0, size, extra⟩ (some obj) (.map []) ∧ VR κ (.map h.next) v' := fun w hw =>
    ⟨.map #[] 0, { w with heap := w.heap.push (.map #[] 0) }, 0, 0, .map (some w.heap.size), pushed_push rfl rfl rfl rfl, hw, fun κ _ hk => ⟨⟨#[], 0, rfl, rfl⟩, _, hk, rfl⟩⟩
  unfold xMap at he
  split at he
  · rename_i hr
    simp only [AOut.val.injEq] at he
    obtain ⟨rfl, rfl⟩ := he
    have e := aopt_OR hρ hr
    refine ⟨_, rfl, fun w => fin w ?_⟩
    have er : r.map ρ = none := e
    simp only [execOp, ho, er, Instr.makeMap]
    simp
  · rename_i k n hr
    split at he
    · rename_i ke el hu
      simp only [AOut.val.injEq] at he
      obtain ⟨rfl, rfl⟩ := he
      obtain ⟨v', hv, er⟩ := aopt_OR hρ hr
      obtain rfl := VR_int hv
      refine ⟨_, rfl, fun w => fin w ?_⟩
      simp only [execOp, ho, er, Instr.makeMap]
      simp [und_run hu, asInt, asIntOf]
    · simp at he
  · simp at he

theorem slice_sound {t : TypeId} {x : Operand} {lo hi mx : Option Operand} (ho : o.op = .slice t x lo hi mx) (hρ : Operands P ι regs ρ) {v : AV} {h' : AHeap}
    (he : xSlice P h t (aeval P regs x) (aopt P regs lo) (aopt P regs hi) (aopt P regs mx) = .val v h') : h' = h ∧ PureR P ι ρ o v := by
  unfold xSlice at he
  split at he
  · rename_i a ha
    split at he
    · rename_i l hl
      split at he
      · rename_i hh hhh
        split at he
        · rename_i m hm
          obtain ⟨e1, e2⟩ := oval_spec he
          obtain ⟨v', hv, hr⟩ := slice_run (hρ x a ha) (aopt_OR hρ hl) (aopt_OR hρ hhh) (aopt_OR hρ hm) e1
          exact ⟨e2, v', hv, fun w => by simp only [execOp, ho, Sem.run_bind, hr, Result.andThen_ok, Sem.run_pure]⟩
        · simp at he
      · simp at he
    · simp at he
  · simp at he

theorem func_sound {fn : Fn} {first captured : Array Operand} (ho : o.op = .makeFunc fn first captured) (hρ : Operands P ι regs ρ) {v : AV} {h' : AHeap}
    (he : xMakeFunc P regs h fn first captured = .val v h') : h' = h ∧ PureR P ι ρ o v := by
  unfold xMakeFunc at he
  split at he
  · rename_i f
    unfold xFunc at he
    split at he
    · rename_i a ha
      split at he
      · rename_i c hc
        simp only [AOut.val.injEq] at he
        obtain ⟨rfl, rfl⟩ := he
        refine ⟨rfl, _, ⟨_, _, aevals_VRs hρ ha, aevals_VRs hρ hc, rfl⟩, fun w => ?_⟩
        simp only [execOp, ho, Instr.makeFunc, Sem.run_bind, Sem.run_pure, Result.andThen_ok]
        congr 2
        congr 1 <;> (apply Array.ext'; simp)
      · simp at he
    · simp at he
  · simp at he

theorem iface_sound {t : TypeId} {x : Operand} (ho : o.op = .makeInterface t x) (hρ : Operands P ι regs ρ) {v : AV} {h' : AHeap} (he : x1 (xIface P h t) (aeval P regs x) = .val v h') :
    h' = h ∧ PureR P ι ρ o v := by
  obtain ⟨a, ha, he⟩ := x1_spec he val_ne
  unfold xIface at he
  split at he
  · simp at he
  · rename_i d hnd hu
    simp only [AOut.val.injEq] at he
    obtain ⟨rfl, rfl⟩ := he
    refine ⟨rfl, _, ⟨_, hρ x a ha, rfl⟩, fun w => ?_⟩
    cases d with
    | interface ms => exact (hnd ms rfl).elim
    | _ => simp [execOp, ho, Instr.makeInterface, und_run hu]
  · simp at he

theorem extract_sound {t : Operand} {i : Nat} (ho : o.op = .extract t i) (hρ : Operands P ι regs ρ) {v : AV} {h' : AHeap} (he : x1 (xExtract h i) (aeval P regs t) = .val v h') :
    h' = h ∧ PureR P ι ρ o v := by
  obtain ⟨a, ha, he⟩ := x1_spec he val_ne
  unfold xExtract at he
  split at he
  · rename_i vs
    obtain ⟨e1, e2⟩ := oval_spec he
    obtain ⟨r, hr⟩ := headOf_spec e1
    obtain ⟨l', hl, el⟩ := hρ t _ ha
    obtain ⟨v', h1, h2⟩ := hl.get i v (drop_cons hr)
    exact ⟨e2, v', h2, fun w => by simp [execOp, ho, el, Instr.extract, h1]⟩
  · simp at he

theorem okA_VR {ι : Inj} {ok : Bool} {v : AV} {v' : Value} {b : Bool} (hv : VR ι v v') : VR ι (okA ok v b) (if ok then .tuple #[v', .bool b] else v') := by
  cases ok with
  | true => exact ⟨[v', .bool b], ⟨v', _, hv, ⟨_, _, rfl, rfl, rfl⟩, rfl⟩, rfl⟩
  | false => exact hv

theorem assert_sound {x : Operand} {xt a : TypeId} {ok : Bool} (ho : o.op = .typeAssert x xt a ok) (hρ : Operands P ι regs ρ) {v : AV} {h' : AHeap}
    (he : x1 (fun v => oval h (aassert P v a ok)) (aeval P regs x) = .val v h') : h' = h ∧ PureR P ι ρ o v := by
  obtain ⟨y, hy, he⟩ := x1_spec he val_ne
  obtain ⟨e1, e2⟩ := oval_spec he
  refine ⟨e2, ?_⟩
  have hyv := hρ x y hy
  unfold aassert at e1
  have hfail : ∀ (d : TypeDesc), P.underlying a = some d → assertNot P a ok = some v → ∃ z', VR ι v (.tuple #[z', .bool false]) ∧ ok = true ∧ ∀ w : World, (zeroValue a).run P w = .ok z' w := by
    intro d hu hn
    unfold assertNot at hn
    split at hn
    · split at hn
      · rename_i z hz
        simp only [Option.some.injEq] at hn; subst hn
        obtain ⟨z', hzv, _, hzr⟩ := tyZero_run hz ι
        exact ⟨z', ⟨[z', .bool false], ⟨z', _, hzv, ⟨_, _, rfl, rfl, rfl⟩, rfl⟩, rfl⟩, rfl, hzr⟩
      · simp at hn
    · simp at hn
  split at e1
  · simp at e1
  · simp at e1
  · rename_i d hnd hu
    have hd : ∀ ms, d ≠ .interface ms := fun ms e => hnd ms e
    split at e1
    · obtain ⟨z', h1, rfl, h3⟩ := hfail d hu e1
      have ex : ρ x = .nilIface := hyv
      refine ⟨_, h1, fun w => ?_⟩
      cases d with
      | interface ms => exact absurd rfl (hd ms)
      | _ => simp [execOp, ho, ex, Instr.typeAssert, und_run hu, h3]
    · rename_i t y'
      obtain ⟨u, hu', ex⟩ := hyv
      split at e1
      · rename_i ht
        simp only [Option.some.injEq] at e1; subst e1
        refine ⟨_, okA_VR hu', fun w => ?_⟩
        cases d with
        | interface ms => exact absurd rfl (hd ms)
        | _ => simp [execOp, ho, ex, Instr.typeAssert, und_run hu, ht]
      · rename_i ht
        obtain ⟨z', h1, rfl, h3⟩ := hfail d hu e1
        refine ⟨_, h1, fun w => ?_⟩
        cases d with
        | interface ms => exact absurd rfl (hd ms)
        | _ => simp [execOp, ho, ex, Instr.typeAssert, und_run hu, ht, h3]
    · simp at e1

/-! min and max -/
theorem minmax_run (mx : Bool) (k : IntKind) : ∀ {l : List AV} {l' : List Value} {x : Int} {v : AV}, VRs ι l l' → aminmaxFrom mx k x l = some v →
    ∃ v', VR ι v v' ∧ ∀ w : World, (l'.foldlM (if mx then Builtin.max2 else Builtin.min2) (.int k x)).run P w = .ok v' w
  | [], l', x, v, hl, he => by
    subst hl
    simp only [aminmaxFrom, Option.some.injEq] at he; subst he
    exact ⟨_, rfl, fun w => rfl⟩
  | a :: r, l', x, v, hl, he => by
    obtain ⟨y', r', hy, hr, rfl⟩ := hl
    unfold aminmaxFrom at he
    split at he
    · rename_i heq; cases heq
    · rename_i j y rest heq
      cases heq
      split at he
      · rename_i hk
        subst hk
        obtain rfl := VR_int hy
        obtain ⟨v', h1, h2⟩ := minmax_run mx k hr he
        refine ⟨v', h1, fun w => ?_⟩
        cases mx
        · simpa [Builtin.min2] using h2 w
        · simpa [Builtin.max2] using h2 w
      · simp at he
    · simp at he

end Go.AM

namespace Go.AM
variable {P : Program} {ι : Inj} {h : AHeap} {regs : Tr AV} {ρ : Operand → Value} {o : Oper}

theorem asBytes_VRs {ι : Inj} : ∀ {l : List AV} {l' : List Value} {r : List UInt8}, VRs ι l l' → asBytes l = some r →
    ∃ ns : List Int, l' = ns.map (Value.int .u8) ∧ r = ns.map fun n => UInt8.ofNat n.toNat
  | [], l', r, hl, h => by
    simp only [asBytes, Option.some.injEq] at h; subst h
    exact ⟨[], hl, rfl⟩
  | v :: l, l', r, ⟨v', t', hv, ht, e⟩, h => by
    subst e
    simp only [asBytes] at h
    split at h
    · rename_i c hc
      split at h
      · rename_i r' hr'
        simp only [Option.some.injEq] at h; subst h
        obtain ⟨ns, e1, e2⟩ := asBytes_VRs ht hr'
        unfold asByte at hc
        split at hc
        · rename_i n
          simp only [Option.some.injEq] at hc; subst hc
          obtain rfl := VR_int hv
          refine ⟨(n : Int) :: ns, ?_, ?_⟩
          · simp only [List.map_cons, e1]; rfl
          · simp [e2]
        · simp at hc
      · simp at h
    · simp at h

theorem bytesWorld_pushed (w : World) (e : TypeId) (s : ByteArray) :
    Pushed w (Lib.bytesWorld w e s) (.cells (Lib.bytesCells w e s) e ((Lib.bytesCells w e s).size, (Lib.bytesCells w e s).size + 1)) :=
  ⟨⟨fun c hc => Lib.bytesWorld_at_old w e s c hc, Lib.bytesWorld_at_new w e s, Lib.bytesWorld_size w e s⟩, by
    unfold Lib.bytesWorld World.freeze; split <;> exact ⟨rfl, rfl, rfl⟩⟩

theorem grownCap_ge (w : World) (n m : Nat) (e : TypeId) : n ≤ grownCap w n m e := by
  unfold grownCap
  simp only [Question.cut]
  omega

theorem convert_sound {s d : TypeId} {x : Operand} (ho : o.op = .convert s d x) (hρ : Operands P ι regs ρ) {v : AV} {h' : AHeap}
    (he : x1 (fun v => ovalh (aconvert P h s d v)) (aeval P regs x) = .val v h') :
    (h' = h ∧ PureR P ι ρ o v) ∨ (∃ k, h' = h.new k ∧ AllocR P ι ρ o h v k) ∨ (h' = h ∧ ReadR P ι ρ o h v ∧ convClass P s d = .reads) := by
  obtain ⟨a, ha, he⟩ := x1_spec he val_ne
  have hav := hρ x a ha
  obtain ⟨hc, hv0⟩ : aconvert P h s d a = some (v, h') ∧ True := by
    unfold ovalh at he
    split at he
    · rename_i v2 h2 e
      simp only [AOut.val.injEq] at he
      rw [e, he.1, he.2]; exact ⟨rfl, trivial⟩
    · simp at he
  have run : ∀ w : World, (execOp ρ o).run P w = ((convert s d (ρ x)).run P w).andThen fun v w => .ok (.value v) w := fun w => by simp [execOp, ho]
  unfold aconvert at hc
  split at hc
  · rename_i j n
    split at hc
    · rename_i us k hs hd
      simp only [Option.some.injEq, Prod.mk.injEq] at hc
      obtain ⟨rfl, rfl⟩ := hc
      have ex : ρ x = .int j n := hav
      refine .inl ⟨rfl, _, rfl, fun w => ?_⟩
      rw [run, ex]
      simp [convert, und_run hs, und_run hd, Conv.intToInt, wrapA_eq]
    · simp at hc
  · rename_i str
    have ex : ρ x = .string str := hav
    split at hc
    · rename_i us hs
      unfold convertStr at hc
      split at hc
      · rename_i hd
        simp only [Option.some.injEq, Prod.mk.injEq] at hc
        obtain ⟨rfl, rfl⟩ := hc
        refine .inl ⟨rfl, _, rfl, fun w => ?_⟩
        rw [run, ex]
        simp [convert, und_run hs, und_run hd]
      · rename_i e hd
        split at hc
        · rename_i hb
          simp only [Option.some.injEq, Prod.mk.injEq] at hc
          obtain ⟨rfl, rfl⟩ := hc
          refine .inr (.inl ⟨_, rfl, fun w => ?_⟩)
          have hg := grownCap_ge w str.size 0 e
          refine ⟨_, Lib.bytesWorld w e str, str.size, grownCap w str.size 0 e - str.size, _, bytesWorld_pushed w e str, by rw [run, ex, Lib.run_convert_string_bytes w s d e str hs hd (isByte_und hb)]; rfl, ?_⟩
          intro κ hle hk
          have hsz : (Lib.bytesCells w e str).size = grownCap w str.size 0 e := by
            simp [Lib.bytesCells]; omega
          refine ⟨⟨_, e, _, rfl, ?_, by simp, ?_, fun _ => ⟨?_, ?_⟩⟩, ?_⟩
          · simp [bytesA]
          · intro i a hi
            simp only [bytesA, List.getElem?_map] at hi
            cases hc : str.data.toList[i]? with
            | none => rw [hc] at hi; simp at hi
            | some c =>
              rw [hc] at hi
              simp only [Option.map_some, Option.some.injEq] at hi; subst hi
              refine ⟨_, ?_, rfl⟩
              have hlt : i < str.data.size := by
                have := (List.getElem?_eq_some_iff.1 hc).1; simpa using this
              simp only [Nat.zero_add, Lib.bytesCells]
              rw [Array.getElem?_append_left (by simpa using hlt)]
              simp only [Array.getElem?_map]
              rw [← Array.getElem?_toList, hc]; rfl
          · simp only [hsz]; omega
          · intro i _ hi
            simp only [hsz] at hi ⊢
            omega
          · refine ⟨_, grownCap w str.size 0 e - str.size, 0, hk, Nat.le_refl _, .inr ⟨by simp, by simp⟩, .inr (by simp), ?_⟩
            congr 1; omega
        · simp at hc
      · simp at hc
    · simp at hc
  · rename_i hni hns
    split at hc
    · rename_i hd
      unfold toStr at hc
      split at hc
      · simp at hc
      · rename_i e hel
        have hs := elemOf_und hel
        split at hc
        · simp at hc
        · rename_i hb
          have he8 := isByte_und hb
          refine .inr (.inr ?_)
          have hcl : convClass P s d = .reads := by simp [convClass, hd, hs]
          split at hc
          · simp only [Option.some.injEq, Prod.mk.injEq] at hc
            obtain ⟨rfl, rfl⟩ := hc
            have ex : ρ x = .slice none 0 0 := hav
            refine ⟨rfl, fun w _ => ⟨_, rfl, ?_⟩, hcl⟩
            rw [run, ex, run_convert_bytes_string w s d e none 0 0 hs he8 hd]
            rfl
          · rename_i b off len cap es
            unfold strOf at hc
            split at hc
            · rename_i l hl
              split at hc
              · rename_i r hr
                simp only [Option.some.injEq, Prod.mk.injEq] at hc
                obtain ⟨rfl, rfl⟩ := hc
                refine ⟨rfl, fun w hw => ?_, hcl⟩
                obtain ⟨L, ex, off', hL, hle, hex, ho', er⟩ := hav
                obtain ⟨l', hv, hlen, hlen2, hcell⟩ := read_cells hw hL hl
                obtain ⟨ns, e1, e2⟩ := asBytes_VRs hv hr
                refine ⟨_, rfl, ?_⟩
                rw [run, er, run_convert_bytes_string w s d e _ _ _ hs he8 hd]
                have hld : (loadCells ⟨L.blk, off', none⟩ len).run P w = .ok (ns.map (Value.int .u8)).toArray w := by
                  rw [← e1, ← hlen]
                  refine run_loadCells_list w _ l' (fun j v hj => ?_)
                  rw [add_plain]
                  have hj' : j < len := by rw [← hlen]; exact (List.getElem?_eq_some_iff.1 hj).1
                  obtain rfl : off' = L.base + off := by rcases ho' with h0 | h0; (· omega); exact h0
                  exact hcell j v hj
                rw [run_bytesToString w _ len _ ns hld, foldl_push_bytes]
                simp [e2, Result.andThen]
              · simp at hc
            · simp at hc
          · simp at hc
    · simp at hc

end Go.AM

namespace Go.AM
variable {P : Program} {ι : Inj} {h : AHeap} {regs : Tr AV} {ρ : Operand → Value} {o : Oper}

theorem load_sound {t : TypeId} {a : Operand} (ho : o.op = .load t a) (hρ : Operands P ι regs ρ) {v : AV} {h' : AHeap} (he : x1 (fun a => oval h (aload P h t a)) (aeval P regs a) = .val v h') :
    h' = h ∧ ReadR P ι ρ o h v := by
  obtain ⟨x, hx, he⟩ := x1_spec he val_ne
  obtain ⟨e1, e2⟩ := oval_spec he
  refine ⟨e2, fun w hw => ?_⟩
  obtain ⟨v', h1, h2⟩ := load_run hw (hρ a x hx) e1
  exact ⟨v', h1, by simp only [execOp, ho, Sem.run_bind, h2, Result.andThen_ok, Sem.run_pure]⟩

/-! Maps. -/
theorem sameNow_run {kd : TypeDesc} {x y : AV} {x' y' : Value} {b : Bool} (hx : VR ι x x') (hy : VR ι y y') (he : akeyEq kd x y = some b) : Instr.sameNow kd x' y' = some b := by
  unfold akeyEq at he
  split at he
  · split at he
    · rename_i hab
      simp only [Option.some.injEq] at he; subst he
      obtain rfl := VR_int hx; obtain rfl := VR_int hy
      simp [Instr.sameNow, hab]
    · simp at he
  · simp only [Option.some.injEq] at he; subst he
    obtain rfl := VR_str hx; obtain rfl := VR_str hy
    simp [Instr.sameNow]
  · simp only [Option.some.injEq] at he; subst he
    obtain rfl := VR_bool hx; obtain rfl := VR_bool hy
    simp [Instr.sameNow]
  · simp at he

theorem findNow_run {kd : TypeDesc} {x : AV} {x' : Value} (hx : VR ι x x') : ∀ {es : List (AV × AV)} {es' : List MapEntry} {i : Nat}, MRs ι es es' →
    (afind kd x es i = some none → Instr.findNow kd x' es' i = some none) ∧
    (∀ j v, afind kd x es i = some (some (j, v)) → ∃ v', Instr.findNow kd x' es' i = some (some (j, v')) ∧ VR ι v v' ∧ i ≤ j ∧ ∃ k, es[j - i]? = some (k, v) ∧ akeyEq kd x k = some true)
  | [], es', i, hm => by
    subst hm
    exact ⟨fun _ => rfl, fun j v h => by simp [afind] at h⟩
  | (y, u) :: es, es', i, ⟨e, l', h1, h2, hl, ee⟩ => by
    subst ee
    obtain ⟨ih1, ih2⟩ := findNow_run (kd := kd) hx (es := es) (i := i + 1) hl
    constructor
    · intro h
      simp only [afind] at h
      split at h
      · simp at h
      · rename_i hk
        simp only [Instr.findNow, sameNow_run hx h1 hk]
        exact ih1 h
      · simp at h
    · intro j v h
      simp only [afind] at h
      split at h
      · rename_i hk
        simp only [Option.some.injEq, Prod.mk.injEq] at h
        obtain ⟨rfl, rfl⟩ := h
        exact ⟨e.val, by simp only [Instr.findNow, sameNow_run hx h1 hk], h2, Nat.le_refl _, y, by simp, hk⟩
      · rename_i hk
        obtain ⟨v', a1, a2, a3, k, a4, a5⟩ := ih2 j v h
        refine ⟨v', by simp only [Instr.findNow, sameNow_run hx h1 hk]; exact a1, a2, by omega, k, ?_, a5⟩
        rw [show j - i = (j - (i + 1)) + 1 from by omega]; simpa using a4
      · simp at h

def plainKd : TypeDesc → Bool
  | .int _ => true
  | .string => true
  | .bool => true
  | _ => false

theorem checkKey_run {kd : TypeDesc} {key : TypeId} {b : Bool} {v : Value} (hk : P.underlying key = some kd) (hp : plainKd kd = true) (w : World) (n : Nat) :
    (Instr.checkKey b (n + 1) key v).run P w = .ok () w := by
  cases kd <;> simp [plainKd] at hp <;> simp [Instr.checkKey, und_run hk]

theorem akeyEq_plain {kd : TypeDesc} {x y : AV} {b : Bool} (he : akeyEq kd x y = some b) : plainKd kd = true := by
  unfold akeyEq at he
  split at he <;> first | rfl | simp at he

theorem entries_run {h : AHeap} {x : AV} {x' : Value} {es : List (AV × AV)} {w : World} (hb : HB ι h w) (hx : VR ι x x') (he : entriesOf h x = some es) :
    ∃ es' : Array MapEntry, MRs ι es es'.toList ∧ ((x' = .map none ∧ es' = #[]) ∨ (∃ r clock, x' = .map (some r) ∧ (getObj r).run P w = .ok (.map es' clock) w)) := by
  unfold entriesOf at he
  split at he
  · simp only [Option.some.injEq] at he; subst he
    exact ⟨#[], rfl, .inl ⟨hx, rfl⟩⟩
  · rename_i b
    split at he
    · rename_i es2 hg
      simp only [Option.some.injEq] at he; subst he
      obtain ⟨L, hL, rfl⟩ := hx
      obtain ⟨es', clock, h1, h2⟩ := hb b _ L hg hL
      exact ⟨es', h2, .inr ⟨L.blk, clock, rfl, by simp [getObj, Sem.run, h1]⟩⟩
    · simp at he
  · simp at he

theorem lookup_sound {t : TypeId} {x i : Operand} {ok : Bool} (ho : o.op = .lookup t x i ok) (hρ : Operands P ι regs ρ) {v : AV} {h' : AHeap}
    (he : x2 (fun x i => oval h (alookup P h t x i ok)) (aeval P regs i) (aeval P regs x) = .val v h') : h' = h ∧ ReadR P ι ρ o h v := by
  obtain ⟨a, b, ha, hb, he⟩ := x2_spec he val_ne
  obtain ⟨e1, e2⟩ := oval_spec he
  refine ⟨e2, fun w hw => ?_⟩
  unfold alookup at e1
  split at e1
  · rename_i key elem hu
    split at e1
    · rename_i kd hk
      split at e1
      · simp at e1
      · rename_i c hself
        split at e1
        · simp at e1
        · rename_i es hes
          obtain ⟨es', hm, hrun⟩ := entries_run (P := P) hw (hρ x a ha) hes
          have hck : (Instr.checkKey es'.isEmpty 10000 key (ρ i)).run P w = .ok () w := checkKey_run hk (akeyEq_plain hself) w 9999
          obtain ⟨f1, f2⟩ := findNow_run (kd := kd) (hρ i b hb) (i := 0) hm
          unfold lookupIn at e1
          split at e1
          · rename_i j u hf
            simp only [Option.some.injEq] at e1; subst e1
            obtain ⟨u', g1, g2, _, _⟩ := f2 _ _ hf
            refine ⟨_, okA_VR g2, ?_⟩
            rcases hrun with ⟨ex, rfl⟩ | ⟨r, clock, ex, hr⟩
            · simp only [execOp, ho, ex, Instr.lookup, Sem.run_bind, und_run hu, Result.andThen_ok, hck, Instr.findKey, und_run hk, g1, Sem.run_pure]
            · simp only [execOp, ho, ex, Instr.lookup, Sem.run_bind, und_run hu, Result.andThen_ok, hr, hck, Instr.findKey, und_run hk, g1, Sem.run_pure]
          · rename_i hf
            split at e1
            · rename_i z hz
              simp only [Option.some.injEq] at e1; subst e1
              obtain ⟨z', hzv, _, hzr⟩ := tyZero_run hz ι
              refine ⟨_, okA_VR hzv, ?_⟩
              rcases hrun with ⟨ex, rfl⟩ | ⟨r, clock, ex, hr⟩
              · simp only [execOp, ho, ex, Instr.lookup, Sem.run_bind, und_run hu, Result.andThen_ok, hck, Instr.findKey, und_run hk, f1 hf, Sem.run_pure, hzr]
              · simp only [execOp, ho, ex, Instr.lookup, Sem.run_bind, und_run hu, Result.andThen_ok, hr, hck, Instr.findKey, und_run hk, f1 hf, Sem.run_pure, hzr]
            · simp at e1
          · simp at e1
    · simp at e1
  · simp at e1

theorem MRs.set {ι : Inj} : ∀ {es : List (AV × AV)} {l : List MapEntry}, MRs ι es l → ∀ (i : Nat) {a : AV × AV} {e : MapEntry}, VR ι a.1 e.key → VR ι a.2 e.val → MRs ι (es.set i a) (l.set i e)
  | [], _, h, i, a, e, _, _ => by subst h; rfl
  | x :: es, _, ⟨y, l', h1, h2, hl, ee⟩, i, a, e, ha, hb => by
    subst ee
    cases i with
    | zero => exact ⟨e, l', ha, hb, hl, rfl⟩
    | succ i => exact ⟨y, l'.set i e, h1, h2, MRs.set hl i ha hb, rfl⟩

theorem MRs.append {ι : Inj} : ∀ {es : List (AV × AV)} {l : List MapEntry}, MRs ι es l → ∀ {a : AV × AV} {e : MapEntry}, VR ι a.1 e.key → VR ι a.2 e.val → MRs ι (es ++ [a]) (l ++ [e])
  | [], _, h, a, e, ha, hb => by subst h; exact ⟨e, [], ha, hb, rfl, rfl⟩
  | x :: es, _, ⟨y, l', h1, h2, hl, ee⟩, a, e, ha, hb => by subst ee; exact ⟨y, l' ++ [e], h1, h2, MRs.append hl ha hb, rfl⟩

theorem MRs.get {ι : Inj} : ∀ {es : List (AV × AV)} {l : List MapEntry}, MRs ι es l → ∀ (i : Nat) {a : AV × AV}, es[i]? = some a → ∃ e, l[i]? = some e ∧ VR ι a.1 e.key ∧ VR ι a.2 e.val
  | [], _, _, i, a, ha => by simp at ha
  | x :: es, _, ⟨y, l', h1, h2, hl, ee⟩, i, a, ha => by
    subst ee
    cases i with
    | zero => simp at ha; subst ha; exact ⟨y, rfl, h1, h2⟩
    | succ i => exact MRs.get hl i (by simpa using ha)

theorem sameBits_run {kd : TypeDesc} {x y : AV} {x' y' : Value} (hx : VR ι x x') (hy : VR ι y y') (he : akeyEq kd x y = some true) : Instr.sameBits 10000 y' x' = true := by
  unfold akeyEq at he
  split at he
  · split at he
    · rename_i hab
      simp only [Option.some.injEq] at he
      obtain rfl := VR_int hx; obtain rfl := VR_int hy
      simp at he; simp [Instr.sameBits, hab, he]
    · simp at he
  · simp only [Option.some.injEq] at he
    obtain rfl := VR_str hx; obtain rfl := VR_str hy
    rw [beq_toListBytes] at he
    have he := eq_of_beq he
    simp [Instr.sameBits, beq_toListBytes, he]
  · simp only [Option.some.injEq] at he
    obtain rfl := VR_bool hx; obtain rfl := VR_bool hy
    simp at he; simp [Instr.sameBits, he]
  · simp at he

theorem mapUpdate_run {w : World} {t : TypeId} {m k v : AV} {m' k' v' : Value} {g : AHeap} (hh : HR ι h w) (hm : VR ι m m') (hk : VR ι k k') (hv : VR ι v v') (he : amapUpdate P h t m k v = some g) :
    ∃ u, (Instr.mapUpdate t m' k' v').run P w = .ok () u ∧ HR ι g u ∧ Ext ι h w ι g u := by
  unfold amapUpdate at he
  split at he
  · rename_i key elem hu
    split at he
    · rename_i b
      split at he
      · rename_i kd hkd
        unfold mapUpdateAs at he
        split at he
        · rename_i es hg
          obtain ⟨L, hL, rfl⟩ := hm
          obtain ⟨es', clock, h1, h2⟩ := hh.blocks b _ L hg hL
          have hlt := hh.bound b L hL
          obtain ⟨f1, f2⟩ := findNow_run (kd := kd) hk (i := 0) h2
          have hget : (getObj L.blk).run P w = .ok (.map es' clock) w := by simp [getObj, Sem.run, h1]
          unfold updateIn at he
          split at he
          · rename_i i u hf
            simp only [Option.some.injEq] at he; subst he
            obtain ⟨u', g1, g2, _, k0, g4, g5⟩ := f2 _ _ hf
            obtain ⟨e, l1, l2, l3⟩ := h2.get _ g4
            simp only [Nat.sub_zero] at l1
            have hck : (Instr.checkKey false 10000 key k').run P w = .ok () w := checkKey_run hkd (akeyEq_plain g5) w 9999
            have hsb := sameBits_run hk l2 g5
            have hold : (((es'[i]?).map (·.key)).getD k') = e.key := by
              rw [← Array.getElem?_toList, l1]; rfl
            refine ⟨{ w with heap := w.heap.setIfInBounds L.blk (.map (es'.modify i fun e => { e with key := k', val := v' }) clock) }, ?_, set_ext hh hL hg rfl (rowSet_setObj w _ hlt) ⟨_, clock, rfl, ?_⟩⟩
            · simp only [Instr.mapUpdate, Sem.run_bind, und_run hu, Result.andThen_ok, hget, hck, Instr.findKey, und_run hkd, g1, Sem.run_pure, hold, Instr.keyThatStays, hsb, if_true]
              simp [setObj, Sem.run, h1]
            · have : (es'.modify i fun e => { e with key := k', val := v' }).toList = es'.toList.set i { e with key := k', val := v' } := by
                apply List.ext_getElem?
                intro j
                rw [Array.getElem?_toList, Array.getElem?_modify, List.getElem?_set]
                by_cases hij : i = j
                · subst hij
                  have hl : i < es'.toList.length := (List.getElem?_eq_some_iff.1 l1).1
                  have l1' : es'[i]? = some e := by simpa using l1
                  simp [l1']
                  simpa using hl
                · simp [hij]
              rw [this]
              exact h2.set i hk hv
          · rename_i hf
            split at he
            · rename_i c hself
              simp only [Option.some.injEq] at he; subst he
              have hck : (Instr.checkKey false 10000 key k').run P w = .ok () w := checkKey_run hkd (akeyEq_plain hself) w 9999
              refine ⟨{ w with heap := w.heap.setIfInBounds L.blk (.map (es'.push { key := k', val := v', born := clock }) (clock + 1)) }, ?_, set_ext hh hL hg rfl (rowSet_setObj w _ hlt) ⟨_, clock + 1, rfl, ?_⟩⟩
              · simp only [Instr.mapUpdate, Sem.run_bind, und_run hu, Result.andThen_ok, hget, hck, Instr.findKey, und_run hkd, f1 hf, Sem.run_pure]
                simp [setObj, Sem.run, h1]
              · rw [Array.toList_push]; exact h2.append hk hv
            · simp at he
          · simp at he
        · simp at he
      · simp at he
    · simp at he
  · simp at he

end Go.AM

namespace Go.AM
variable {P : Program} {ι : Inj} {h : AHeap} {w : World}

theorem store_run {t : TypeId} {a v : AV} {a' v' : Value} {g : AHeap} (hh : HR ι h w) (ha : VR ι a a') (hv : VR ι v v') (he : astore P h t a v = some g) :
    ∃ u, (Instr.storeAt t a' v').run P w = .ok () u ∧ HR ι g u ∧ Ext ι h w ι g u := by
  unfold astore at he
  split at he
  · rename_i b o
    unfold storeAs at he
    split at he
    · rename_i n hn
      split at he
      · rename_i hl
        obtain ⟨L, hL, rfl⟩ := ha
        obtain ⟨vc, hvc, ec⟩ := hv.cells
        obtain ⟨h1, h2, h3⟩ := write_run (P := P) hh hL hvc he
        refine ⟨_, ?_, h2, h3⟩
        have hsz : v'.cells.size = n := by rw [ec]; simp [← hvc.length, hasLen_spec hl]
        have hsz' : vc.length = n := by rw [← hvc.length]; exact hasLen_spec hl
        simp [Instr.storeAt, Instr.sureAddr, storeVar, tySize_run hn, ec, hsz', h1]
      · simp at he
    · simp at he
  · simp at he

/-- A block is let go, and its row, written, is that of a new one. -/
theorem adopt_ext {b : Nat} {L L' : Loc} {k0 k : ABlk} {o : Obj} {u : World} (hh : HR ι h w) (hL : ι b = some L) (hg : h.get b = some k0) (hw : k0.writable = true) (hblk : L'.blk = L.blk)
    (hu : RowSet w u L.blk o) (hk : BR (ι.upd h.next L') L' (some o) k) :
    HR (ι.upd h.next L') ((h.set b .dead).new k) u ∧ Ext ι h w (ι.upd h.next L') ((h.set b .dead).new k) u := by
  obtain ⟨g1, g4, g5, g6, g7, g8⟩ := hu
  have hle : ι.le (ι.upd h.next L') := Inj.upd_le (hh.fresh _ (Nat.le_refl _))
  have hbn : b < h.next := hh.next _ _ hg
  have hcase : ∀ c M, ι.upd h.next L' c = some M → (c = h.next ∧ M = L') ∨ (c ≠ h.next ∧ ι c = some M) := by
    intro c M hc
    unfold Inj.upd at hc
    split at hc
    · rename_i e; simp only [Option.some.injEq] at hc; exact .inl ⟨e, hc.symm⟩
    · rename_i e; exact .inr ⟨e, hc⟩
  have hget : ∀ c k2, ((h.set b .dead).new k).get c = some k2 → (c = h.next ∧ k2 = k) ∨ (c ≠ h.next ∧ c = b ∧ k2 = .dead) ∨ (c ≠ h.next ∧ c ≠ b ∧ h.get c = some k2) := by
    intro c k2 hc
    rw [AHeap.get_new, AHeap.get_set, AHeap.next_set] at hc
    split at hc
    · rename_i e; cases hc; exact .inl ⟨e, rfl⟩
    · rename_i e
      split at hc
      · rename_i e2; cases hc; exact .inr (.inl ⟨e, e2, rfl⟩)
      · rename_i e2; exact .inr (.inr ⟨e, e2, hc⟩)
  have hother : ∀ c M k2, c ≠ b → ι c = some M → h.get c = some k2 → k2.live = true → M.blk ≠ L.blk := fun c M k2 hne hM hk2 hl => by
    have := hh.apart b c L M k0 k2 (Ne.symm hne) hL hM hg hk2 hw hl
    exact fun e => this e.symm
  refine ⟨⟨?_, ?_, ?_, ?_, ?_⟩, ⟨hle, ?_, by simp [AHeap.next_new, AHeap.next_set], by omega, ?_, ?_, ?_, ?_, g6, g7, g8⟩⟩
  · intro c k2 M hc hM
    rcases hget c k2 hc with ⟨rfl, rfl⟩ | ⟨_, rfl, rfl⟩ | ⟨hn1, hn2, hc⟩
    · rcases hcase _ M hM with ⟨_, rfl⟩ | ⟨hne, _⟩
      · rw [hblk, g1]; exact hk
      · exact absurd rfl hne
    · trivial
    · rcases hcase c M hM with ⟨e, _⟩ | ⟨_, hM⟩
      · exact absurd e hn1
      · have hb := hh.blocks c k2 M hc hM
        by_cases hlv : k2.live = true
        · rw [g4 _ (hother c M k2 hn2 hM hc hlv)]; exact hb.mono hle
        · cases k2 <;> first | trivial | simp [ABlk.live] at hlv
  · intro c M hM
    rcases hcase c M hM with ⟨_, rfl⟩ | ⟨_, hM⟩
    · have := hh.bound b L hL; rw [hblk]; omega
    · have := hh.bound c M hM; omega
  · intro c1 c2 M1 M2 k1 k2 hne h1 h2 hk1 hk2 hw1 hl2
    rcases hget c1 k1 hk1 with ⟨rfl, rfl⟩ | ⟨_, rfl, rfl⟩ | ⟨hn1, hn2, hk1o⟩
    · rcases hcase _ M1 h1 with ⟨_, rfl⟩ | ⟨hne', _⟩
      · rcases hget c2 k2 hk2 with ⟨rfl, rfl⟩ | ⟨_, rfl, rfl⟩ | ⟨hn3, hn4, hk2o⟩
        · exact absurd rfl hne
        · simp [ABlk.live] at hl2
        · rcases hcase c2 M2 h2 with ⟨e, _⟩ | ⟨_, h2o⟩
          · exact absurd e hn3
          · rw [hblk]; exact fun e => hother c2 M2 k2 hn4 h2o hk2o hl2 e.symm
      · exact absurd rfl hne'
    · simp [ABlk.writable] at hw1
    · rcases hcase c1 M1 h1 with ⟨e, _⟩ | ⟨_, h1o⟩
      · exact absurd e hn1
      · rcases hget c2 k2 hk2 with ⟨e2, _⟩ | ⟨_, _, e3⟩ | ⟨hn3, hn4, hk2o⟩
        · rcases hcase c2 M2 h2 with ⟨_, e4⟩ | ⟨hne', _⟩
          · rw [e4, hblk]; exact hother c1 M1 k1 hn2 h1o hk1o (ABlk.live_of_writable hw1)
          · exact absurd e2 hne'
        · rw [e3] at hl2; simp [ABlk.live] at hl2
        · rcases hcase c2 M2 h2 with ⟨e, _⟩ | ⟨_, h2o⟩
          · exact absurd e hn3
          · exact hh.apart c1 c2 M1 M2 k1 k2 hne h1o h2o hk1o hk2o hw1 hl2
  · intro c k2 hc
    rw [AHeap.next_new, AHeap.next_set]
    rcases hget c k2 hc with ⟨rfl, rfl⟩ | ⟨_, rfl, rfl⟩ | ⟨_, _, hc⟩
    · omega
    · omega
    · have := hh.next c k2 hc; omega
  · intro c hc
    rw [AHeap.next_new, AHeap.next_set] at hc
    unfold Inj.upd
    rw [if_neg (by omega)]
    exact hh.fresh c (by omega)
  · intro c M hM
    rcases hcase c M hM with ⟨rfl, _⟩ | ⟨_, hM⟩
    · exact .inr ⟨Nat.le_refl _, by simp [AHeap.next_new, AHeap.next_set]⟩
    · exact .inl hM
  · intro c hc hn
    refine g4 c (fun e => hn ?_)
    subst e
    exact ⟨b, L, k0, hL, hg, hw, rfl⟩
  · rintro c hc ⟨x, M, k2, hx, hk2, hp, rfl⟩
    rcases hget x k2 hk2 with ⟨rfl, rfl⟩ | ⟨_, rfl, rfl⟩ | ⟨hn1, hn2, hk2⟩
    · rcases hcase _ M hx with ⟨_, rfl⟩ | ⟨hne', _⟩
      · exact ⟨b, L, k0, hL, hg, ABlk.live_of_writable hw, hblk.symm⟩
      · exact absurd rfl hne'
    · simp [ABlk.live] at hp
    · rcases hcase x M hx with ⟨e, _⟩ | ⟨_, hx⟩
      · exact absurd e hn1
      · exact ⟨x, M, k2, hx, hk2, hp, rfl⟩
  · rintro c hc ⟨x, M, k2, hx, hk2, hp, rfl⟩
    rcases hget x k2 hk2 with ⟨rfl, rfl⟩ | ⟨_, rfl, rfl⟩ | ⟨hn1, hn2, hk2⟩
    · rcases hcase _ M hx with ⟨_, rfl⟩ | ⟨hne', _⟩
      · exact ⟨b, L, k0, hL, hg, hw, hblk.symm⟩
      · exact absurd rfl hne'
    · simp [ABlk.writable] at hp
    · rcases hcase x M hx with ⟨e, _⟩ | ⟨_, hx⟩
      · exact absurd e hn1
      · exact ⟨x, M, k2, hx, hk2, hp, rfl⟩
  · intro c hc hn
    rw [AHeap.get_new, AHeap.get_set, AHeap.next_set, if_neg (by omega), if_neg (fun e => by subst e; rw [hL] at hn; cases hn)]

/-! Append. -/
theorem nextcap_le {need old : Nat} (h : old < need) : Builtin.nextslicecap need old ≤ 2 * need := by
  have key : ∀ (r c : Nat), 256 ≤ c → c < 2 * need → Builtin.growBy need r c ≤ 2 * need := by
    intro r
    induction r with
    | zero => intro c _ hc; simp [Builtin.growBy]; omega
    | succ r ih =>
      intro c h1 h2
      simp only [Builtin.growBy]
      split
      · omega
      · exact ih _ (by omega) (by omega)
  unfold Builtin.nextslicecap
  split
  · omega
  · split
    · omega
    · exact key 4 old (by omega) (by omega)

theorem sized_spec {es : Nat} {r : Option (Nat × List AV)} {n : Nat} {l : List AV} (h : sized es r = some (n, l)) : r = some (n, l) ∧ l.length = n * es := by
  unfold sized at h
  split at h
  · split at h
    · rename_i hl
      simp only [Option.some.injEq, Prod.mk.injEq] at h
      obtain ⟨rfl, rfl⟩ := h
      exact ⟨rfl, hasLen_spec hl⟩
    · simp at h
  · simp at h

theorem bytesA_VRs (ι : Inj) (s : ByteArray) : VRs ι (bytesA s) (s.data.toList.map fun b => Value.int .u8 b.toNat) := by
  unfold bytesA
  induction s.data.toList with
  | nil => rfl
  | cons c l ih => exact ⟨_, _, rfl, ih, rfl⟩

theorem cell_heap {w u : World} (e : u.heap = w.heap) (a : Addr) : u.cell? a = w.cell? a := by
  unfold World.cell?
  rw [e]

/-- What is appended or copied, read. -/
theorem src_run {es : Nat} {x : AV} {x' : Value} {n : Nat} {l : List AV} (hb : HB ι h w) (hx : VR ι x x') (he : sized es (asrc h es x) = some (n, l)) :
    ∃ l', VRs ι l l' ∧ (∀ w : World, (Builtin.lenOf x').run P w = .ok n w) ∧ ∀ u : World, u.heap = w.heap → ∀ k, k ≤ n → (Builtin.firstCells es k x').run P u = .ok (l'.take (k * es)).toArray u := by
  obtain ⟨he, hlen⟩ := sized_spec he
  unfold asrc at he
  split at he
  · simp only [Option.some.injEq, Prod.mk.injEq] at he
    obtain ⟨rfl, rfl⟩ := he
    obtain rfl : x' = .slice none 0 0 := hx
    exact ⟨[], rfl, fun _ => rfl, fun u _ k hk => by obtain rfl : k = 0 := by omega
                                                     simp [Builtin.firstCells]⟩
  · rename_i b o len cap es' _
    unfold counted at he
    split at he
    · rename_i l0 hl0
      simp only [Option.some.injEq, Prod.mk.injEq] at he
      obtain ⟨rfl, rfl⟩ := he
      obtain ⟨L, e, off, hL, hle, hex, ho, rfl⟩ := hx
      obtain ⟨l', hv, h1, h2, h3⟩ := read_cells hb hL hl0
      refine ⟨l', hv, fun _ => rfl, fun u hu k hk => ?_⟩
      have hk' : k * es ≤ len * es := Nat.mul_le_mul_right es hk
      have hl : (l'.take (k * es)).length = k * es := by rw [List.length_take, h1]; omega
      have := run_loadCells_list (P := P) u ⟨L.blk, off, none⟩ (l'.take (k * es)) (fun j v hj => by
        rw [add_plain, cell_heap hu]
        have hj' : j < k * es := by rw [← hl]; exact (List.getElem?_eq_some_iff.1 hj).1
        have hpos : 0 < len := by
          rcases Nat.eq_zero_or_pos len with h0 | h0
          · subst h0; simp at hk'; omega
          · exact h0
        obtain rfl : off = L.base + o := by rcases ho with h0 | h0; (· omega); exact h0
        rw [List.getElem?_take_of_lt hj'] at hj
        exact h3 j v hj)
      rw [hl] at this
      simpa [Builtin.firstCells] using this
    · simp at he
  · rename_i s _
    simp only [Option.some.injEq, Prod.mk.injEq] at he
    obtain ⟨rfl, rfl⟩ := he
    obtain rfl := VR_str hx
    refine ⟨_, bytesA_VRs ι s, fun _ => rfl, fun u _ k hk => ?_⟩
    have hes : es = 1 ∨ s.size = 0 := by
      have h1 : (bytesA s).length = s.size := by simp [bytesA]
      rw [h1] at hlen
      rcases Nat.eq_zero_or_pos s.size with h0 | h0
      · exact .inr h0
      · left
        have : s.size * 1 = s.size * es := by omega
        exact (Nat.eq_of_mul_eq_mul_left h0 this).symm
    have hk2 : (List.map (fun b : UInt8 => Value.int .u8 b.toNat) s.data.toList).take (k * es) = (s.data.toList.take k).map fun b => Value.int .u8 b.toNat := by
      rw [List.map_take]
      rcases hes with rfl | h0
      · rw [Nat.mul_one]
      · obtain rfl : k = 0 := by omega
        simp
    rw [hk2]
    simp only [Builtin.firstCells, Sem.run_pure]
    congr 1
    apply Array.ext'
    simp only [Array.toList_map]
    congr 1
    simp
  · simp at he

end Go.AM

namespace Go.AM
variable {P : Program} {ι : Inj} {h : AHeap} {w : World}

theorem zeroCells_eq (zc : List Value) (n : Nat) : Builtin.zeroCells zc.toArray n = (List.replicate n zc).flatten.toArray := by
  have := zeros_eq zc n
  simpa [Builtin.zeroCells] using this

def isIntD : TypeDesc → Bool
  | .int _ => true
  | _ => false

theorem isIntTy_spec {t : Option TypeId} {b : Bool} (he : isIntTy P t = some b) : (t = none ∧ b = false) ∨ (∃ t' d, t = some t' ∧ P.underlying t' = some d ∧ b = isIntD d) := by
  cases t with
  | none => simp only [isIntTy, Option.some.injEq] at he; exact .inl ⟨rfl, he.symm⟩
  | some t =>
    unfold isIntTy at he
    cases hu : P.underlying t with
    | none => simp only [hu] at he; simp at he
    | some d =>
      refine .inr ⟨t, d, rfl, hu, ?_⟩
      simp only [hu] at he
      cases d <;> simp only [Option.some.injEq] at he <;> rw [← he] <;> rfl

/-- What stands behind the first operations of an append. -/
def appendTail (elem size : Nat) (base : Option Addr) (sLen sCap n : Nat) (zeros : Bool) (s x : Value) (appended : Sem (Array Value)) : Sem Value := do
  let need := sLen + n
  if need ≤ sCap then
    let new ← appended
    if let some a := base then storeCells (a.add (sLen * size)) new.toList
    pure (.slice base need sCap)
  else
    if (need : Int) > IntKind.i64.max ∧ (zeros ∨ (← typeInfo elem).bytes = 0) then runtimePanic (.error "growslice: len out of range")
    if Builtin.nextslicecap need sCap * (← typeInfo elem).bytes > 2 ^ 48 then (if zeros then runtimePanic (.error "growslice: len out of range") else do
      if !(← Builtin.mayShare size sLen n base x) then mark .noRoom
      unsupported (.resourceLimit "append: a slice or a string whose bytes no memory bears"))
    let newCap ← choose (.appendCap need sCap elem)
    askRoom (newCap * (← typeInfo elem).bytes)
    let old ← Builtin.firstCells size sLen s
    let new ← appended
    let rest := Builtin.zeroCells (← zeroValue elem).cells (newCap - need)
    pure (.slice (some (← newRow elem (old ++ new ++ rest))) need newCap)

theorem append_in {elem size : Nat} {a : Option Addr} {sLen sCap n : Nat} {zeros : Bool} {s x : Value} {appended : Sem (Array Value)} {new : List Value} {u : World}
    (ha : appended.run P w = .ok new.toArray w) (hle : sLen + n ≤ sCap) (hst : (match a with | some a => storeCells (a.add (sLen * size)) new | none => pure () : Sem Unit).run P w = .ok () u) :
    (appendTail elem size a sLen sCap n zeros s x appended).run P w = .ok (.slice a (sLen + n) sCap) u := by
  unfold appendTail
  simp only [Sem.run_ite]
  rw [if_pos hle]
  cases a with
  | none =>
    simp only [Sem.run_pure, Result.ok.injEq, true_and] at hst
    subst hst
    simp [ha]
  | some a => simp [ha, hst]

theorem append_out {elem size : Nat} {a : Option Addr} {sLen sCap n bytes : Nat} {zeros : Bool} {s x : Value} {appended : Sem (Array Value)} {new old zc : List Value} {i : TypeInfo}
    (ha : ∀ w' : World, w'.heap = w.heap → appended.run P w' = .ok new.toArray w') (hgt : ¬ sLen + n ≤ sCap) (hi : ∀ w : World, (typeInfo elem).run P w = .ok i w) (hb : i.bytes = bytes)
    (hlim : (sLen + n) * bytes < 2 ^ 44) (hlim2 : sLen + n < 2 ^ 44)
    (hold : ∀ w' : World, w'.heap = w.heap → (Builtin.firstCells size sLen s).run P w' = .ok old.toArray w') {z' : Value} (hz : ∀ w : World, (zeroValue elem).run P w = .ok z' w) (hzc : z'.cells = zc.toArray) :
    ∃ newCap u, sLen + n ≤ newCap ∧ (appendTail elem size a sLen sCap n zeros s x appended).run P w = .ok (.slice (some ⟨w.heap.size, 0, none⟩) (sLen + n) newCap) u ∧
      Pushed w u (.cells (old ++ new ++ (List.replicate (newCap - (sLen + n)) zc).flatten).toArray elem) := by
  have h1 : ¬ (((sLen + n : Nat) : Int) > IntKind.i64.max ∧ (zeros = true ∨ i.bytes = 0)) := by
    intro h; have := h.1; simp [IntKind.max, IntKind.signed, IntKind.bits] at this; omega
  have h2 : ¬ (Builtin.nextslicecap (sLen + n) sCap * i.bytes > 2 ^ 48) := by
    have h3 := nextcap_le (need := sLen + n) (old := sCap) (by omega)
    have h4 : Builtin.nextslicecap (sLen + n) sCap * i.bytes ≤ 2 * (sLen + n) * bytes := by rw [hb]; exact Nat.mul_le_mul_right _ h3
    have h5 : 2 * (sLen + n) * bytes = 2 * ((sLen + n) * bytes) := by rw [Nat.mul_assoc]
    omega
  refine ⟨(Question.appendCap (sLen + n) sCap elem).cut (w.tape w.drawn (.appendCap (sLen + n) sCap elem)),
    { w with drawn := w.drawn + 1, heap := w.heap.push (.cells (old ++ new ++ (List.replicate ((Question.appendCap (sLen + n) sCap elem).cut (w.tape w.drawn (.appendCap (sLen + n) sCap elem)) - (sLen + n)) zc).flatten).toArray elem) }, ?_, ?_, pushed_push rfl rfl rfl rfl⟩
  · simp only [Question.cut]; omega
  · generalize hq : (Question.appendCap (sLen + n) sCap elem).cut (w.tape w.drawn (.appendCap (sLen + n) sCap elem)) = q
    have hch : (choose (.appendCap (sLen + n) sCap elem)).run P w = .ok q { w with drawn := w.drawn + 1 } := by
      simp [Question.forced, hq]
    unfold appendTail
    simp only [Sem.run_ite, Sem.run_bind]
    rw [if_neg hgt]
    simp only [hi, Result.andThen_ok]
    rw [if_neg h1]
    simp only [Sem.run_pure]
    rw [if_neg h2]
    simp only [Result.andThen_ok, hch, run_askRoom]
    rw [hold { w with drawn := w.drawn + 1 } rfl]
    simp only [Result.andThen_ok]
    rw [ha { w with drawn := w.drawn + 1 } rfl]
    simp only [Result.andThen_ok, hz, hzc, zeroCells_eq, newRow, Sem.run_bind, run_newObj, Sem.run_pure]
    simp

theorem appended_zeros {es n : Nat} {zc : List Value} {z' : Value} {elem : Nat} (hz : ∀ w : World, (zeroValue elem).run P w = .ok z' w) (hzc : z'.cells = zc.toArray) (hlen : zc.length = es) (w : World) :
    (if n * es = 0 then pure #[] else do pure (Builtin.zeroCells (← zeroValue elem).cells n) : Sem (Array Value)).run P w = .ok (List.replicate n zc).flatten.toArray w := by
  by_cases h0 : n * es = 0
  · rw [if_pos h0]
    have : (List.replicate n zc).flatten = [] := by
      apply List.eq_nil_of_length_eq_zero
      simp [List.length_flatten, hlen, h0]
    rw [this]; rfl
  · rw [if_neg h0]
    simp [hz, hzc, zeroCells_eq]

/-- What append comes to, up to where it parts. -/
theorem append_head {argTypes : Array TypeId} {type st e es bytes : Nat} {zeros : Bool} {zero x : AV} {x' : Value} {base : Option Addr} {sLen sCap n : Nat} {new : List AV}
    (h0 : argTypes[0]? = some st) (hel : elemOf? P st = some e) (hz : isIntTy P argTypes[1]? = some zeros) (hes : tySize P e = some es) (hby : tyBytes P e = some bytes) (hze : tyZero P e = some zero)
    (hzl : zero.cells.length = es) (hb : HB ι h w) (hx : VR ι x x') (hm : sized es (amore h es bytes zero.cells zeros x) = some (n, new)) :
    ∃ (appended : Sem (Array Value)) (new' : List Value), VRs ι new new' ∧ new'.length = n * es ∧ (∀ w' : World, w'.heap = w.heap → appended.run P w' = .ok new'.toArray w') ∧
      (Builtin.append_ argTypes type #[.slice base sLen sCap, x']).run P w = (appendTail e es base sLen sCap n zeros (.slice base sLen sCap) x' appended).run P w := by
  obtain ⟨hm', hlen⟩ := sized_spec hm
  obtain ⟨i, hib, hir⟩ := tyBytes_run hby
  obtain ⟨z', hzv, _, hzr⟩ := tyZero_run hze ι
  obtain ⟨zc, hzc, ez⟩ := hzv.cells
  have hzcl : zc.length = es := by rw [← hzc.length]; exact hzl
  cases zeros with
  | true =>
    rcases isIntTy_spec hz with ⟨_, h2⟩ | ⟨t', d, ht', hu, hd⟩
    · simp at h2
    · obtain ⟨k, rfl⟩ : ∃ k, d = .int k := by
        cases d <;> simp [isIntD] at hd
        exact ⟨_, rfl⟩
      simp only [amore, zerosOf] at hm'
      split at hm'
      · rename_i nn hn
        split at hm'
        · rename_i hlim
          simp only [Option.some.injEq, Prod.mk.injEq] at hm'
          obtain ⟨rfl, rfl⟩ := hm'
          obtain ⟨kk, rfl⟩ := aslot_spec hx hn
          refine ⟨_, _, hzc.rep nn, ?_, fun w' _ => appended_zeros hzr ez hzcl w', ?_⟩
          · simp [List.length_flatten, hzcl]
          · have w1 : IntKind.i64.wrap (nn : Int) = nn := by rw [← wrapA_eq]; simp only [wrapA]; rw [if_pos (by omega)]
            have t1 : ¬ ((nn : Int) < 0) := by omega
            have t2 : ¬ ((nn : Int) * (i.bytes : Int) > 2 ^ 48) := by
              rw [hib, ← Int.natCast_mul]
              have := hlim.2
              omega
            unfold Builtin.append_
            rw [h0, ht']
            simp only [List.getElem?_toArray, List.getElem?_cons_zero, List.getElem?_cons_succ]
            rw [Sem.run_bind, und_run (elemOf_und hel), Result.andThen_ok]
            simp only []
            rw [Sem.run_bind, tySize_run hes, Result.andThen_ok, Sem.run_bind, und_run hu, Result.andThen_ok, Sem.run_bind, Sem.run_pure, Result.andThen_ok, Sem.run_ite, if_pos rfl,
              Sem.run_bind]
            have has : ∀ w : World, (asInt (.int kk (nn : Int))).run P w = .ok (nn : Int) w := fun _ => by simp [asInt, asIntOf]
            rw [has, Result.andThen_ok, w1, Sem.run_ite, if_neg t1, Sem.run_bind, hir, Result.andThen_ok, Sem.run_ite, if_neg t2, Sem.run_bind, Sem.run_pure, Result.andThen_ok]
            rfl
        · simp at hm'
      · simp at hm'
  | false =>
    simp only [amore] at hm
    obtain ⟨new', hv, hlo, hfc⟩ := src_run (P := P) hb hx hm
    have hnl : new'.length = n * es := by rw [← hv.length]; exact hlen
    have hfc' : ∀ w' : World, w'.heap = w.heap → (Builtin.firstCells es n x').run P w' = .ok new'.toArray w' := by
      intro w' hw'
      have := hfc w' hw' n (Nat.le_refl _)
      rwa [← hnl, List.take_length] at this
    refine ⟨Builtin.firstCells es n x', new', hv, hnl, hfc', ?_⟩
    rcases isIntTy_spec hz with ⟨h1, _⟩ | ⟨t', d, ht', hu, hd⟩
    · unfold Builtin.append_
      rw [h0, h1]
      simp only [List.getElem?_toArray, List.getElem?_cons_zero, List.getElem?_cons_succ]
      rw [Sem.run_bind, und_run (elemOf_und hel), Result.andThen_ok]
      simp only []
      rw [Sem.run_bind, tySize_run hes, Result.andThen_ok, Sem.run_bind, Sem.run_pure, Result.andThen_ok, Sem.run_ite, if_neg (by simp), Sem.run_bind, hlo, Result.andThen_ok]
      rfl
    · unfold Builtin.append_
      rw [h0, ht']
      simp only [List.getElem?_toArray, List.getElem?_cons_zero, List.getElem?_cons_succ]
      rw [Sem.run_bind, und_run (elemOf_und hel), Result.andThen_ok]
      simp only []
      rw [Sem.run_bind, tySize_run hes, Result.andThen_ok, Sem.run_bind, und_run hu, Result.andThen_ok]
      cases d <;> first | (simp [isIntD] at hd; done) | skip
      all_goals
        rw [Sem.run_bind, Sem.run_pure, Result.andThen_ok, Sem.run_ite, if_neg (by simp), Sem.run_bind, hlo, Result.andThen_ok]
        rfl

theorem append_kill {b o len cap es e n : Nat} {L : Loc} {cs old : List AV} {ex : Bool} {new : List AV} {new' : List Value} (hh : HR ι h w) (hL : ι b = some L) (hg : h.get b = some (.cells cs false ex))
    (hsz : o + cap * es = L.size) (he : e * es ≤ L.extra) (_ : len ≤ cap) (_ : cap < len + n) (hle : len + n ≤ cap + e) (hold : readCells cs o (len * es) = some old) (hv : VRs ι new new') (hnl : new'.length = n * es)
    (hsc : new.all AV.scalar = true) :
    ∃ u κ, (storeCells ⟨L.blk, L.base + o + len * es, none⟩ new').run P w = .ok () u ∧
      HR κ ((h.set b .dead).new (.cells (old ++ new) false false)) u ∧ Ext ι h w κ ((h.set b .dead).new (.cells (old ++ new) false false)) u ∧
      VR κ (.slice h.next 0 (len + n) (len + n) es) (.slice (some ⟨L.blk, L.base + o, none⟩) (len + n) (cap + e)) := by
  obtain ⟨c, elem, fz, h1, h2, h4, h5, h6⟩ := hh.blocks b _ L hg hL
  obtain ⟨h7, h8⟩ := h6 rfl
  obtain ⟨ho, hol⟩ := takeN_spec (show takeN (len * es) (cs.drop o) = some old from hold)
  have hlen := hv.length
  have hol' : old.length = len * es := by subst ho; simp at hol ⊢; omega
  have m1 : (len + n) * es = len * es + n * es := Nat.add_mul _ _ _
  have m2 : (cap + e) * es = cap * es + e * es := Nat.add_mul _ _ _
  have m3 : (len + n) * es ≤ (cap + e) * es := Nat.mul_le_mul_right es hle
  have m4 : (cap + e - (len + n)) * es = (cap + e) * es - (len + n) * es := Nat.sub_mul _ _ _
  have hcell : ∀ j, L.base + j < c.size → (w.cell? ⟨L.blk, L.base + j, none⟩).isSome = true := by
    intro j hj; simp [World.cell?, h1, hj]
  have hfro : ∀ j, j < L.size + L.extra → w.frozen? ⟨L.blk, L.base + j, none⟩ = false := by
    intro j hj
    have := h8 (L.base + j) (by omega) (by omega)
    simp only [World.frozen?, h1]
    simp; omega
  have hrun := run_storeCells_cells (P := P) L.blk (L.base + o + len * es) new' 0 w
    (fun j hj => by rw [show L.base + o + len * es + 0 + j = L.base + (o + len * es + j) from by omega]; exact hcell _ (by omega))
    (fun j hj => by rw [show L.base + o + len * es + 0 + j = L.base + (o + len * es + j) from by omega]; exact hfro _ (by omega))
    (hv.oneCells hsc)
  obtain ⟨c', g1, g2, g3, g4, g5, g6, g7, g8⟩ := setCells_spec L.blk new' (L.base + o + len * es) w c elem fz h1 (by omega)
  have hbn : b < h.next := hh.next _ _ hg
  have hle' : ι.le (ι.upd h.next ⟨L.blk, L.base + o, (len + n) * es, (cap + e - (len + n)) * es⟩) := Inj.upd_le (hh.fresh _ (Nat.le_refl _))
  have hA := adopt_ext (L' := ⟨L.blk, L.base + o, (len + n) * es, (cap + e - (len + n)) * es⟩) (k := .cells (old ++ new) false false) hh hL hg rfl rfl
    (show RowSet w (w.setCells L.blk (L.base + o + len * es) new') L.blk (.cells c' elem fz) from ⟨g1, g4, g5, g6, g7, g8⟩) (by
      refine ⟨c', elem, fz, rfl, by simp [hol', hlen, hnl, m1], by simp, ?_, fun _ => ⟨by simp only; omega, fun i hi1 hi2 => h8 i (by simp only at hi1; omega) (by simp only at hi2; omega)⟩⟩
      intro i v hi
      simp only
      rw [g3]
      by_cases hin : i < len * es
      · rw [List.getElem?_append_left (by omega)] at hi
        rw [if_neg (by omega)]
        have hcs : cs[o + i]? = some v := by
          subst ho
          rw [List.getElem?_take_of_lt hin, List.getElem?_drop] at hi
          exact hi
        obtain ⟨v', a1, a2⟩ := h5 _ _ hcs
        exact ⟨v', by rw [show L.base + o + i = L.base + (o + i) from by omega]; exact a1, a2.mono hle'⟩
      · rw [List.getElem?_append_right (by omega)] at hi
        have hlt := (List.getElem?_eq_some_iff.1 hi).1
        rw [if_pos ⟨by omega, by omega⟩]
        obtain ⟨v', a1, a2⟩ := hv.get _ v hi
        exact ⟨v', by rw [show L.base + o + i - (L.base + o + len * es) = i - old.length from by omega]; exact a1, a2.mono hle'⟩)
  refine ⟨_, _, hrun, hA.1, hA.2, ?_⟩
  refine ⟨⟨L.blk, L.base + o, (len + n) * es, (cap + e - (len + n)) * es⟩, cap + e - (len + n), L.base + o, by simp [Inj.upd], Nat.le_refl _, .inr ⟨by simp, by simp⟩, .inr (by simp), ?_⟩
  congr 1
  omega

end Go.AM

namespace Go.AM
variable {P : Program} {ι : Inj} {h : AHeap} {w : World}

theorem out_tail {u : World} {cs : List AV} {cs' rest : List Value} {e m cap es : Nat} (hh : HR ι h w) (hu : Pushed w u (.cells (cs' ++ rest).toArray e)) (hv : VRs ι cs cs') (hcs : cs.length = m * es) (hcap : m ≤ cap)
    (hr : rest.length = (cap - m) * es) :
    ∃ κ, VR κ (.slice h.next 0 m m es) (.slice (some ⟨w.heap.size, 0, none⟩) m cap) ∧ HR κ (h.new (.cells cs false false)) u ∧ Ext ι h w κ (h.new (.cells cs false false)) u := by
  have hle : ι.le (ι.upd h.next ⟨w.heap.size, 0, cs.length, (cap - m) * es⟩) := Inj.upd_le (hh.fresh _ (Nat.le_refl _))
  have hA := new_ext (size := cs.length) (extra := (cap - m) * es) (k := .cells cs false false) hh hu (BR_row (VRs.mono hle _ hv) (by simp) hr)
  refine ⟨_, ⟨⟨w.heap.size, 0, cs.length, (cap - m) * es⟩, cap - m, 0, by simp [Inj.upd], Nat.le_refl _, .inr ⟨by simp [hcs], by simp⟩, .inr rfl, ?_⟩, hA.1, hA.2⟩
  congr 1
  omega

theorem appendNew_spec {es m b : Nat} {kill : Bool} {new : List AV} {r : Option (List AV)} {v : AV} {g : AHeap} (he : appendNew h es m b kill new r = some (v, g)) :
    ∃ old, r = some old ∧ v = .slice h.next 0 m m es ∧ ((kill = false ∧ g = h.new (.cells (old ++ new) false false)) ∨ (kill = true ∧ new.all AV.scalar = true ∧ g = (h.set b .dead).new (.cells (old ++ new) false false))) := by
  unfold appendNew at he
  split at he
  · simp at he
  · rename_i old
    split at he
    · simp only [Option.some.injEq, Prod.mk.injEq] at he
      exact ⟨old, rfl, he.1.symm, .inl ⟨rfl, he.2.symm⟩⟩
    · split at he
      · rename_i hs
        simp only [Option.some.injEq, Prod.mk.injEq] at he
        exact ⟨old, rfl, he.1.symm, .inr ⟨rfl, hs, he.2.symm⟩⟩
      · simp at he

theorem zeros_length {zc : List Value} {es : Nat} (h : zc.length = es) (n : Nat) : (List.replicate n zc).flatten.length = n * es := by
  simp [List.length_flatten, h]

theorem appendNil_spec {es bytes n : Nat} {new : List AV} {v : AV} {g : AHeap} (he : appendNil h es bytes n new = some (v, g)) :
    (n = 0 ∧ v = .nils ∧ g = h) ∨ (0 < n ∧ (n * bytes < 2 ^ 44 ∧ n < 2 ^ 44) ∧ v = .slice h.next 0 n n es ∧ g = h.new (.cells new false false)) := by
  cases n with
  | zero =>
    simp only [appendNil, Option.some.injEq, Prod.mk.injEq] at he
    exact .inl ⟨rfl, he.1.symm, he.2.symm⟩
  | succ n =>
    simp only [appendNil] at he
    split at he
    · rename_i hlim
      simp only [Option.some.injEq, Prod.mk.injEq] at he
      exact .inr ⟨Nat.succ_pos _, hlim, he.1.symm, he.2.symm⟩
    · simp at he

theorem appendTo_spec {es bytes b o len cap n : Nat} {new : List AV} {v : AV} {g : AHeap} (he : appendTo h es bytes b o len cap n new = some (v, g)) :
    (n = 0 ∧ v = .slice b o len cap es ∧ g = h) ∨ (0 < n ∧ len + n ≤ cap ∧ h.write b (o + len * es) new = some g ∧ v = .slice b o (len + n) cap es) ∨
      (0 < n ∧ ¬ len + n ≤ cap ∧ ((len + n) * bytes < 2 ^ 44 ∧ len + n < 2 ^ 44) ∧ appendOut h es b o len cap n new (h.get b) = some (v, g)) := by
  cases n with
  | zero =>
    simp only [appendTo, Option.some.injEq, Prod.mk.injEq] at he
    exact .inl ⟨rfl, he.1.symm, he.2.symm⟩
  | succ n =>
    simp only [appendTo] at he
    split at he
    · rename_i hle
      unfold appendIn at he
      split at he
      · rename_i g' hg'
        simp only [Option.some.injEq, Prod.mk.injEq] at he
        obtain ⟨rfl, rfl⟩ := he
        exact .inr (.inl ⟨Nat.succ_pos _, hle, hg', rfl⟩)
      · simp at he
    · rename_i hgt
      split at he
      · rename_i hlim
        exact .inr (.inr ⟨Nat.succ_pos _, hgt, hlim, he⟩)
      · simp at he

theorem appendSized_spec {es bytes : Nat} {zero : List AV} {zeros : Bool} {s x : AV} {r : AV × AHeap} (he : appendSized h es bytes zero zeros s x = some r) :
    0 < es ∧ zero.length = es ∧ ∃ n new, sized es (amore h es bytes zero zeros x) = some (n, new) ∧
      ((s = .nils ∧ appendNil h es bytes n new = some r) ∨ ∃ b o len cap, s = .slice b o len cap es ∧ appendTo h es bytes b o len cap n new = some r) := by
  cases es with
  | zero => simp [appendSized] at he
  | succ es =>
    simp only [appendSized] at he
    split at he
    case h_2 => simp at he
    rename_i hl
    refine ⟨Nat.succ_pos _, hasLen_spec hl, ?_⟩
    unfold appendWith at he
    split at he
    · simp at he
    rename_i n new hm
    refine ⟨n, new, hm, ?_⟩
    split at he
    · exact .inl ⟨rfl, he⟩
    · rename_i b o len cap es2
      split at he
      · rename_i hb
        obtain rfl : es2 = es + 1 := Nat.eq_of_beq_eq_true hb
        exact .inr ⟨b, o, len, cap, rfl, he⟩
      · simp at he
    · simp at he

theorem append_run {argTypes : Array TypeId} {type : Nat} {s x v : AV} {s' x' : Value} {g : AHeap} (hh : HR ι h w) (hs : VR ι s s') (hx : VR ι x x') (he : aappend P h argTypes s x = some (v, g)) :
    ∃ κ u v', (Builtin.append_ argTypes type #[s', x']).run P w = .ok v' u ∧ VR κ v v' ∧ HR κ g u ∧ Ext ι h w κ g u := by
  unfold aappend at he
  split at he
  · simp at he
  rename_i st h0
  split at he
  case h_2 => simp at he
  rename_i e hel
  unfold appendElem at he
  split at he
  · simp at he
  rename_i zeros hz
  split at he
  · simp at he
  rename_i es hes
  split at he
  · simp at he
  rename_i bytes hby
  split at he
  · simp at he
  rename_i zero hze
  obtain ⟨hpos, hzl, n, new, hm, he2⟩ := appendSized_spec he
  clear he
  obtain ⟨hm', hnl⟩ := sized_spec hm
  obtain ⟨i, hib, hir⟩ := tyBytes_run hby
  obtain ⟨z', hzv, _, hzr⟩ := tyZero_run hze ι
  obtain ⟨zc, hzc, ez⟩ := hzv.cells
  have hzcl : zc.length = es := by rw [← hzc.length]; exact hzl
  rcases he2 with ⟨rfl, he⟩ | ⟨b, o, len, cap, rfl, he⟩
  · -- nil
    obtain rfl : s' = .slice none 0 0 := hs
    obtain ⟨appended, new', hv', hn', hap, hrun⟩ := append_head (type := type) (base := none) (sLen := 0) (sCap := 0) h0 hel hz hes hby hze hzl hh.hb hx hm
    rw [hrun]
    rcases appendNil_spec he with ⟨rfl, rfl, rfl⟩ | ⟨hn0, hlim, rfl, rfl⟩
    · exact ⟨ι, w, _, append_in (hap w rfl) (Nat.le_refl _) rfl, rfl, hh, Ext.refl ι _ w⟩
    · obtain ⟨cap, u, hcap, hr, hp⟩ := append_out (a := none) (zeros := zeros) (s := .slice none 0 0) (x := x') (sLen := 0) (sCap := 0) (n := n) (size := es) (old := []) hap (by omega) hir hib (by simpa using hlim.1) (by simpa using hlim.2)
        (fun w' _ => by simp [Builtin.firstCells]) hzr ez
      simp only [Nat.zero_add] at hr hp hcap
      obtain ⟨κ, a1, a2, a3⟩ := out_tail (m := n) (cap := cap) (es := es) hh hp (show VRs ι new ([] ++ new') from hv') hnl hcap (zeros_length hzcl _)
      exact ⟨κ, u, _, hr, a1, a2, a3⟩
  · -- a slice
    have hs0 := hs
    obtain ⟨L, ex, off, hL, hlc, hex, hoff, rfl⟩ := hs
    obtain ⟨appended, new', hv', hn', hap, hrun⟩ := append_head (type := type) (base := some ⟨L.blk, off, none⟩) (sLen := len) (sCap := cap + ex) h0 hel hz hes hby hze hzl hh.hb hx hm
    rw [hrun]
    have hoff' : cap + ex ≠ 0 → off = L.base + o := fun hne => by rcases hoff with h0 | h0; (· omega); exact h0
    rcases appendTo_spec he with ⟨rfl, rfl, rfl⟩ | ⟨hn0, hle, hw, rfl⟩ | ⟨hn0, hgt, hlim, he⟩
    · have hnil : new' = [] := List.eq_nil_of_length_eq_zero (by simpa using hn')
      subst hnil
      refine ⟨ι, w, _, append_in (hap w rfl) (by omega) (by rfl), ?_, hh, Ext.refl ι _ w⟩
      exact hs0
    · obtain ⟨h1, h2, h3⟩ := write_run (P := P) hh hL hv' hw
      have ho := hoff' (by omega)
      refine ⟨ι, _, _, append_in (hap w rfl) (by omega) ?_, ?_, h2, h3⟩
      · rw [ho]; simp only [add_plain]; rw [Nat.add_assoc]; exact h1
      · exact ⟨L, ex, off, hL, hle, hex, hoff, rfl⟩
    · skip
      unfold appendOut at he
      split at he
      case h_2 => simp at he
      rename_i cs ro exact hg
      split at he
      case h_2 => simp at he
      rename_i kill hk
      obtain ⟨old, hold, rfl, hgo⟩ := appendNew_spec he
      obtain ⟨c, elem, fz, b1, b2, b3, b4, b5⟩ := hh.blocks b _ L hg hL
      have hread : h.read b o (len * es) = some old := by unfold AHeap.read; rw [hg]; exact hold
      by_cases hin : len + n ≤ cap + ex
      · have hex0 : ex ≠ 0 := by omega
        obtain ⟨q1, q2⟩ := hex.resolve_left hex0
        have hexact : exact = false := by
          cases exact with
          | false => rfl
          | true =>
            exfalso
            rw [b3 rfl] at q2
            rcases Nat.mul_eq_zero.1 (Nat.le_zero.1 q2) with h | h
            · exact hex0 h
            · omega
        subst hexact
        have hro : ro = false ∧ kill = true := by
          unfold mustKill at hk
          simp only at hk
          rw [if_neg (by omega)] at hk
          cases ro with
          | true => simp at hk
          | false => simp at hk; exact ⟨rfl, hk⟩
        obtain ⟨rfl, rfl⟩ := hro
        rcases hgo with ⟨h1, _⟩ | ⟨_, hsc, rfl⟩
        · simp at h1
        · obtain ⟨u, κ, r1, r2, r3, r4⟩ := append_kill (P := P) hh hL hg q1 q2 hlc (by omega) hin hold hv' hn' hsc
          have ho := hoff' (by omega)
          refine ⟨κ, u, _, append_in (hap w rfl) hin ?_, ?_, r2, r3⟩
          · rw [ho]; simp only [add_plain]; exact r1
          · rw [ho]; exact r4
      · obtain ⟨old', o1, o2, o3, o4⟩ := read_cells hh.hb hL hread
        have hfc : ∀ w' : World, w'.heap = w.heap → (Builtin.firstCells es len (.slice (some ⟨L.blk, off, none⟩) len (cap + ex))).run P w' = .ok old'.toArray w' := by
          intro w' hw'
          have := run_loadCells_list (P := P) w' ⟨L.blk, off, none⟩ old' (fun j v hj => by
            rw [add_plain, cell_heap hw']
            have hj' : j < len * es := by rw [← o2]; exact (List.getElem?_eq_some_iff.1 hj).1
            have hp : 0 < len := by
              rcases Nat.eq_zero_or_pos len with h0 | h0
              · subst h0; simp at hj'
              · exact h0
            rw [hoff' (by omega)]
            exact o4 j v hj)
          rw [o2] at this
          simpa [Builtin.firstCells] using this
        obtain ⟨cap', u, hcap, hr, hp⟩ := append_out (a := some ⟨L.blk, off, none⟩) (zeros := zeros) (s := .slice (some ⟨L.blk, off, none⟩) len (cap + ex)) (x := x') (sLen := len) (sCap := cap + ex) (n := n) (size := es)
          hap hin hir hib hlim.1 hlim.2 hfc hzr ez
        have hcl : (old ++ new).length = (len + n) * es := by simp [o3, hnl, Nat.add_mul]
        rcases hgo with ⟨_, rfl⟩ | ⟨rfl, _, rfl⟩
        · obtain ⟨κ, a1, a2, a3⟩ := out_tail (m := len + n) (cap := cap') (es := es) hh hp (VRs.append o1 hv') hcl hcap (zeros_length hzcl _)
          exact ⟨κ, u, _, hr, a1, a2, a3⟩
        · have hro : ro = false := by
            unfold mustKill at hk
            split at hk
            · simp at hk
            · split at hk
              · simp at hk
              · split at hk
                · simp at hk
                · rfl
          subst hro
          obtain ⟨d1, d2⟩ := dead_hr hh hL hg rfl
          obtain ⟨κ, a1, a2, a3⟩ := out_tail (m := len + n) (cap := cap') (es := es) d1 hp (VRs.append o1 hv') hcl hcap (zeros_length hzcl _)
          exact ⟨κ, u, _, hr, a1, a2, d2.trans a3⟩

end Go.AM

namespace Go.AM
variable {P : Program} {ι : Inj} {h : AHeap} {w : World} {regs : Tr AV} {ρ : Operand → Value} {o : Oper}

theorem nilCheck_sound {x : Operand} (ho : o.op = .nilCheck x) (hρ : Operands P ι regs ρ) {v : AV} {h' : AHeap} (he : x1 (fun v => oval h (anil v)) (aeval P regs x) = .val v h') :
    h' = h ∧ PureR P ι ρ o v := by
  obtain ⟨a, ha, he⟩ := x1_spec he val_ne
  obtain ⟨e1, e2⟩ := oval_spec he
  have hva : v = a := by
    unfold anil at e1
    split at e1 <;> simp only [Option.some.injEq, reduceCtorEq] at e1 <;> exact e1.symm
  exact ⟨e2, ρ x, by rw [hva]; exact hρ x a ha, fun w => (nil_run (P := P) ho (hρ x a ha) e1 w).1⟩

theorem bin_sound {op : BinOp} {t t' : TypeId} {x y : Operand} (ho : o.op = .binOp op t x y t') (hρ : Operands P ι regs ρ) {v : AV} {h' : AHeap}
    (he : x2 (fun a b => oval h (abin P op t a b)) (aeval P regs y) (aeval P regs x) = .val v h') : h' = h ∧ PureR P ι ρ o v := by
  obtain ⟨a, b, ha, hb, he⟩ := x2_spec he val_ne
  obtain ⟨e1, e2⟩ := oval_spec he
  obtain ⟨v', hv, hr⟩ := abin_run (hρ x a ha) (hρ y b hb) e1
  refine ⟨e2, v', hv, fun w => ?_⟩
  simp only [execOp, ho, Sem.run_bind, eqGuard_run (xo := x) (yo := y) (hρ x a ha) e1, Result.andThen_ok, hr, Sem.run_pure]

theorem un_sound {op : UnOp} {t : TypeId} {x : Operand} (ho : o.op = .unOp op t x) (hρ : Operands P ι regs ρ) {v : AV} {h' : AHeap}
    (he : x1 (fun v => oval h (aun op v)) (aeval P regs x) = .val v h') : h' = h ∧ PureR P ι ρ o v := by
  obtain ⟨a, ha, he⟩ := x1_spec he val_ne
  obtain ⟨e1, e2⟩ := oval_spec he
  obtain ⟨v', hv, hr⟩ := aun_run (P := P) (hρ x a ha) e1
  exact ⟨e2, v', hv, fun w => by simp only [execOp, ho, Sem.run_bind, hr, Result.andThen_ok, Sem.run_pure]⟩

theorem fieldAddr_sound {t : TypeId} {x : Operand} {f : Nat} (ho : o.op = .fieldAddr t x f) (hρ : Operands P ι regs ρ) {v : AV} {h' : AHeap}
    (he : x1 (fun v => oval h (afieldAddr P t v f)) (aeval P regs x) = .val v h') : h' = h ∧ PureR P ι ρ o v := by
  obtain ⟨a, ha, he⟩ := x1_spec he val_ne
  obtain ⟨e1, e2⟩ := oval_spec he
  obtain ⟨v', hv, hr⟩ := fieldAddr_run (P := P) (hρ x a ha) e1
  exact ⟨e2, v', hv, fun w => by simp only [execOp, ho, Sem.run_bind, hr, Result.andThen_ok, Sem.run_pure]⟩

theorem field_sound {t : TypeId} {x : Operand} {f : Nat} (ho : o.op = .field t x f) (hρ : Operands P ι regs ρ) {v : AV} {h' : AHeap}
    (he : x1 (fun v => oval h (afield P t v f)) (aeval P regs x) = .val v h') : h' = h ∧ PureR P ι ρ o v := by
  obtain ⟨a, ha, he⟩ := x1_spec he val_ne
  obtain ⟨e1, e2⟩ := oval_spec he
  obtain ⟨v', hv, hr⟩ := field_run (P := P) (hρ x a ha) e1
  exact ⟨e2, v', hv, fun w => by simp only [execOp, ho, Sem.run_bind, hr, Result.andThen_ok, Sem.run_pure]⟩

theorem indexAddr_sound {t : TypeId} {x i : Operand} (ho : o.op = .indexAddr t x i) (hρ : Operands P ι regs ρ) {v : AV} {h' : AHeap}
    (he : x2 (fun x i => oval h (aindexAddr P t x i)) (aeval P regs i) (aeval P regs x) = .val v h') : h' = h ∧ PureR P ι ρ o v := by
  obtain ⟨a, b, ha, hb, he⟩ := x2_spec he val_ne
  obtain ⟨e1, e2⟩ := oval_spec he
  obtain ⟨v', hv, hr⟩ := indexAddr_run (P := P) (hρ x a ha) (hρ i b hb) e1
  exact ⟨e2, v', hv, fun w => by simp only [execOp, ho, Sem.run_bind, hr, Result.andThen_ok, Sem.run_pure]⟩

theorem index_sound {t : TypeId} {x i : Operand} (ho : o.op = .index t x i) (hρ : Operands P ι regs ρ) {v : AV} {h' : AHeap}
    (he : x2 (fun x i => oval h (aindex P t x i)) (aeval P regs i) (aeval P regs x) = .val v h') : h' = h ∧ PureR P ι ρ o v := by
  obtain ⟨a, b, ha, hb, he⟩ := x2_spec he val_ne
  obtain ⟨e1, e2⟩ := oval_spec he
  obtain ⟨v', hv, hr⟩ := index_run (P := P) (hρ x a ha) (hρ i b hb) e1
  exact ⟨e2, v', hv, fun w => by simp only [execOp, ho, Sem.run_bind, hr, Result.andThen_ok, Sem.run_pure]⟩

theorem copyOut_spec {k : Nat} {r : Option AHeap} {v : AV} {g : AHeap} (he : copyOut k r = some (v, g)) : r = some g ∧ v = .int .i64 k := by
  cases r with
  | none => simp [copyOut] at he
  | some g' =>
    simp only [copyOut, Option.some.injEq, Prod.mk.injEq] at he
    exact ⟨by rw [he.2], he.1.symm⟩

theorem copy_run {argTypes : Array TypeId} {type : Nat} {s x v : AV} {s' x' : Value} {g : AHeap} (hh : HR ι h w) (hs : VR ι s s') (hx : VR ι x x') (he : acopy P h argTypes s x = some (v, g)) :
    ∃ κ u v', (Builtin.copy_ argTypes type #[s', x']).run P w = .ok v' u ∧ VR κ v v' ∧ HR κ g u ∧ Ext ι h w κ g u := by
  unfold acopy at he
  split at he
  · simp at he
  rename_i st h0
  split at he
  · simp at he
  rename_i e hel
  split at he
  case h_2 => simp at he
  rename_i es hes
  unfold copyTo at he
  split at he
  case h_2 => simp at he
  rename_i n l hm
  obtain ⟨l', hv, hlo, hfc⟩ := src_run (P := P) hh.hb hx hm
  obtain ⟨_, hnl⟩ := sized_spec hm
  split at he
  · simp only [Option.some.injEq, Prod.mk.injEq] at he
    obtain ⟨rfl, rfl⟩ := he
    obtain rfl : s' = .slice none 0 0 := hs
    have hn0 : Nat.min n 0 = 0 := Nat.min_zero _
    have h1 := hfc w rfl 0 (Nat.zero_le _)
    refine ⟨ι, w, .int .i64 0, ?_, rfl, hh, Ext.refl ι _ w⟩
    simp only [Builtin.copy_, h0, List.getElem?_toArray, List.getElem?_cons_zero, List.getElem?_cons_succ, Sem.run_bind, und_run (elemOf_und hel), Result.andThen_ok, tySize_run hes, hlo, Sem.run_pure, hn0, h1]
    rfl
  · rename_i b o len cap es'
    obtain ⟨hw, rfl⟩ := copyOut_spec he
    obtain ⟨L, e2, off, hL, hle, hex, hoff, rfl⟩ := hs
    have h1 := hfc w rfl (min n len) (Nat.min_le_left _ _)
    have h1' : (Builtin.firstCells es (Nat.min n len) x').run P w = .ok (l'.take (min n len * es)).toArray w := h1
    by_cases hc0 : cap + e2 = 0
    · have hl0 : len = 0 := by omega
      subst hl0
      have hm0 : min n 0 = 0 := Nat.min_zero _
      have hm1 : Nat.min n 0 = 0 := Nat.min_zero _
      rw [hm0, Nat.zero_mul, List.take_zero] at hw
      obtain ⟨_, h3, h4⟩ := write_run (P := P) (vs := []) (vs' := []) hh hL rfl hw
      refine ⟨ι, w, .int .i64 0, ?_, by rw [hm0]; rfl, h3, h4⟩
      have h1 := hfc w rfl 0 (Nat.zero_le _)
      simp only [Builtin.copy_, h0, List.getElem?_toArray, List.getElem?_cons_zero, List.getElem?_cons_succ, Sem.run_bind, und_run (elemOf_und hel), Result.andThen_ok, tySize_run hes, hlo, Sem.run_pure, hm1, h1]
      simp only [Nat.zero_mul, List.take_zero]
      rfl
    · obtain rfl := hoff.resolve_left hc0
      obtain ⟨h2, h3, h4⟩ := write_run (P := P) hh hL (VRs.take (min n len * es) hv) hw
      refine ⟨ι, _, .int .i64 (min n len : Nat), ?_, rfl, h3, h4⟩
      simp only [Builtin.copy_, h0, List.getElem?_toArray, List.getElem?_cons_zero, List.getElem?_cons_succ, Sem.run_bind, und_run (elemOf_und hel), Result.andThen_ok, tySize_run hes, hlo, Sem.run_pure, h1', h2]
      rfl
  · simp at he

theorem len_run {t : Option TypeId} {type : Nat} {argTypes : Array TypeId} {x v : AV} {x' : Value} (hb : HB ι h w) (ht : argTypes[0]? = t) (hx : VR ι x x') (he : alen P h t x = some v) :
    ∃ v', VR ι v v' ∧ (Builtin.len_ argTypes type #[x']).run P w = .ok v' w := by
  unfold alen at he
  split at he
  case h_2 => simp at he
  rename_i t
  unfold lenAs at he
  split at he
  · rename_i hu
    split at he
    · rename_i s
      simp only [Option.some.injEq] at he; subst he
      obtain rfl := VR_str hx
      exact ⟨_, rfl, by simp [Builtin.len_, ht, und_run hu, goInt]⟩
    · simp at he
  · rename_i n e hu
    simp only [Option.some.injEq] at he; subst he
    exact ⟨_, rfl, by simp [Builtin.len_, ht, und_run hu, goInt]⟩
  · rename_i a hu
    split at he
    · rename_i n e hu2
      simp only [Option.some.injEq] at he; subst he
      exact ⟨_, rfl, by simp [Builtin.len_, ht, und_run hu, und_run hu2, goInt]⟩
    · simp at he
  · rename_i e hu
    split at he
    · simp only [Option.some.injEq] at he; subst he
      obtain rfl : x' = .slice none 0 0 := hx
      exact ⟨_, rfl, by simp [Builtin.len_, ht, und_run hu, goInt]⟩
    · rename_i n _ _
      simp only [Option.some.injEq] at he; subst he
      obtain ⟨L, e2, off, hL, hle, hex, hoff, rfl⟩ := hx
      exact ⟨_, rfl, by simp [Builtin.len_, ht, und_run hu, goInt]⟩
    · simp at he
  · rename_i k e hu
    split at he
    · simp only [Option.some.injEq] at he; subst he
      obtain rfl : x' = .map none := hx
      exact ⟨_, rfl, by simp [Builtin.len_, ht, und_run hu, goInt]⟩
    · rename_i b
      unfold mapLen at he
      split at he
      · rename_i es hg
        simp only [Option.some.injEq] at he; subst he
        obtain ⟨L, hL, rfl⟩ := hx
        obtain ⟨es', clock, h1, h2⟩ := hb b _ L hg hL
        have hl : es.length = es'.size := by
          have : ∀ (a : List (AV × AV)) (l : List MapEntry), MRs ι a l → a.length = l.length := by
            intro a
            induction a with
            | nil => intro l h; subst h; rfl
            | cons a r ih => intro l h; obtain ⟨e, l', _, _, h3, rfl⟩ := h; simp [ih l' h3]
          simpa using this es es'.toList h2
        exact ⟨_, rfl, by simp [Builtin.len_, ht, und_run hu, goInt, getObj, Sem.run, h1, hl]⟩
      · simp at he
    · simp at he
  · simp at he

end Go.AM

namespace Go.AM
variable {P : Program} {ι : Inj} {h : AHeap} {w : World} {regs : Tr AV} {ρ : Operand → Value} {o : Oper}

/-- What an operation does, in the machine. -/
def OutR (P : Program) (ι : Inj) (ρ : Operand → Value) (o : Oper) (h : AHeap) (w : World) : AOut → Prop
  | .fail => True
  | .val v g => ∃ κ u v', (execOp ρ o).run P w = .ok (.value v') u ∧ VR κ v v' ∧ HR κ g u ∧ Ext ι h w κ g u
  | .skip g => ∃ κ u, (execOp ρ o).run P w = .ok .skip u ∧ HR κ g u ∧ Ext ι h w κ g u
  | .call f args => ∃ args', VRs ι args args' ∧ (execOp ρ o).run P w = (callFunc f args'.toArray).run P w
  | .yield l args => ∃ L args', ι l = some L ∧ VRs ι args args' ∧ (execOp ρ o).run P w = (Instr.yield L.blk args'.toArray).run P w
  | .defer d => ∃ d' c, DR ι d d' ∧ o.op = .defer c ∧ (resolve ρ c o.type).run P w = .ok d' w
  | .recover => (execOp ρ o).run P w = .ok .recover w
  | .panic v => ∃ v', VR ι v v' ∧ (execOp ρ o).run P w = .halt (.panic v') w

theorem outR_pure {v : AV} (hh : HR ι h w) (hp : PureR P ι ρ o v) : OutR P ι ρ o h w (.val v h) := by
  obtain ⟨v', hv, hr⟩ := hp
  exact ⟨ι, w, v', hr w, hv, hh, Ext.refl ι h w⟩

theorem outR_read {v : AV} (hh : HR ι h w) (hp : ReadR P ι ρ o h v) : OutR P ι ρ o h w (.val v h) := by
  obtain ⟨v', hv, hr⟩ := hp w hh.hb
  exact ⟨ι, w, v', hr, hv, hh, Ext.refl ι h w⟩

theorem outR_alloc {v : AV} {k : ABlk} (hh : HR ι h w) (hp : AllocR P ι ρ o h v k) : OutR P ι ρ o h w (.val v (h.new k)) := by
  obtain ⟨obj, u, size, extra, v', hu, hr, hb⟩ := hp w
  obtain ⟨b1, b2⟩ := hb (ι.upd h.next ⟨w.heap.size, 0, size, extra⟩) (Inj.upd_le (hh.fresh _ (Nat.le_refl _))) (by simp [Inj.upd])
  obtain ⟨a1, a2⟩ := new_ext hh hu b1
  exact ⟨_, u, v', hr, b2, a1, a2⟩

theorem pure_read {v : AV} (hp : PureR P ι ρ o v) : ReadR P ι ρ o h v := fun w _ =>
  let ⟨v', hv, hr⟩ := hp; ⟨v', hv, hr w⟩

/-- Made from nothing but the operands. -/
def StillR (P : Program) (ι : Inj) (ρ : Operand → Value) (o : Oper) (h : AHeap) (v : AV) (g : AHeap) : Prop :=
  (g = h ∧ PureR P ι ρ o v) ∨ (∃ k, g = h.new k ∧ AllocR P ι ρ o h v k)

theorem outR_still {v : AV} {g : AHeap} (hh : HR ι h w) (hp : StillR P ι ρ o h v g) : OutR P ι ρ o h w (.val v g) := by
  rcases hp with ⟨rfl, hp⟩ | ⟨k, rfl, hp⟩
  · exact outR_pure hh hp
  · exact outR_alloc hh hp

theorem new_ne (h : AHeap) (k : ABlk) : h.new k ≠ h := fun e => by
  have := congrArg AHeap.next e
  simp [AHeap.next_new] at this

theorem convert_string {s d : TypeId} {a v : AV} {g : AHeap} (hu : P.underlying d = some .string) (he : aconvert P h s d a = some (v, g)) : g = h := by
  unfold aconvert at he
  split at he
  · rw [hu] at he
    split at he
    · rename_i heq; simp at heq
    · simp at he
  · split at he
    · unfold convertStr at he
      rw [hu] at he
      simp only [Option.some.injEq, Prod.mk.injEq] at he
      exact he.2.symm
    · simp at he
  · rw [hu] at he
    simp only [toStr] at he
    split at he
    · simp at he
    · split at he
      · simp at he
      · split at he
        · simp only [Option.some.injEq, Prod.mk.injEq] at he; exact he.2.symm
        · unfold strOf at he
          split at he
          · split at he
            · simp only [Option.some.injEq, Prod.mk.injEq] at he; exact he.2.symm
            · simp at he
          · simp at he
        · simp at he

theorem ovalh_spec {r : Option (AV × AHeap)} {v : AV} {g : AHeap} (he : ovalh r = .val v g) : r = some (v, g) := by
  unfold ovalh at he
  split at he
  · simp only [AOut.val.injEq] at he; rw [he.1, he.2]
  · simp at he

theorem convert_reads {s d : TypeId} {x : Operand} (ho : o.op = .convert s d x) (hρ : Operands P ι regs ρ) {v : AV} {h' : AHeap} (hc : convClass P s d = .reads)
    (he : x1 (fun v => ovalh (aconvert P h s d v)) (aeval P regs x) = .val v h') : h' = h ∧ ReadR P ι ρ o h v := by
  have hu : P.underlying d = some .string := by
    unfold convClass at hc
    split at hc
    · simp at hc
    · rename_i hu; exact hu
    · simp at hc
    · simp at hc
  rcases convert_sound ho hρ he with ⟨rfl, hp⟩ | ⟨k, rfl, _⟩ | ⟨rfl, hp, _⟩
  · exact ⟨rfl, pure_read hp⟩
  · obtain ⟨a, ha, he⟩ := x1_spec he val_ne
    exact absurd (convert_string hu (ovalh_spec he)) (new_ne _ _)
  · exact ⟨rfl, hp⟩

theorem convert_still {s d : TypeId} {x : Operand} (ho : o.op = .convert s d x) (hρ : Operands P ι regs ρ) {v : AV} {h' : AHeap} (hc : convClass P s d = .still)
    (he : x1 (fun v => ovalh (aconvert P h s d v)) (aeval P regs x) = .val v h') : StillR P ι ρ o h v h' := by
  rcases convert_sound ho hρ he with ⟨rfl, hp⟩ | ⟨k, rfl, hp⟩ | ⟨rfl, hp, hn⟩
  · exact .inl ⟨rfl, hp⟩
  · exact .inr ⟨k, rfl, hp⟩
  · rw [hc] at hn; cases hn

theorem convert_out {s d : TypeId} {x : Operand} (ho : o.op = .convert s d x) (hρ : Operands P ι regs ρ) (hh : HR ι h w) {v : AV} {h' : AHeap}
    (he : x1 (fun v => ovalh (aconvert P h s d v)) (aeval P regs x) = .val v h') : OutR P ι ρ o h w (.val v h') := by
  rcases convert_sound ho hρ he with ⟨rfl, hp⟩ | ⟨k, rfl, hp⟩ | ⟨rfl, hp, hn⟩
  · exact outR_pure hh hp
  · exact outR_alloc hh hp
  · exact outR_read hh hp

theorem func_still {fn : Fn} {first captured : Array Operand} (ho : o.op = .makeFunc fn first captured) (hρ : Operands P ι regs ρ) {v : AV} {h' : AHeap}
    (he : oFunc fn first captured P regs h = .val v h') : StillR P ι ρ o h v h' := .inl (func_sound ho hρ he)

/-! Calls of what is built in. -/
theorem builtin_args {c : Call} {b : Builtin} (hc : c.callee = .builtin b) (hρ : Operands P ι regs ρ) {args : List AV} (ha : aevals P regs c.args.toList = some args) :
    ∃ args', VRs ι args args' ∧ ∃ consts, ∀ w : World, o.op = .call c → (execOp ρ o).run P w = (builtin b c.argTypes o.type consts args'.toArray).run P w := by
  refine ⟨_, aevals_VRs hρ ha, (c.args.map fun | .const _ => true | _ => false), fun w ho => ?_⟩
  simp only [execOp, ho, resolve, hc, Sem.run_bind, Sem.run_pure, Result.andThen_ok, invoke]
  congr 2
  apply Array.ext'
  simp

theorem len_reads {c : Call} (ho : o.op = .call c) (hc : c.callee = .builtin .len) (hρ : Operands P ι regs ρ) {v : AV} {h' : AHeap} (he : oCall c P regs h = .val v h') : h' = h ∧ ReadR P ι ρ o h v := by
  unfold oCall xCall at he
  split at he
  · simp at he
  · rename_i args ha
    rw [hc] at he
    simp only [xBuiltin, xLen] at he
    split at he
    · rename_i x
      obtain ⟨e1, e2⟩ := oval_spec he
      refine ⟨e2, fun w hw => ?_⟩
      obtain ⟨args', ⟨x', r, hx, hr, rfl⟩, consts, hrun⟩ := builtin_args (o := o) hc hρ ha
      obtain rfl : r = [] := hr
      obtain ⟨v', h1, h2⟩ := len_run (type := o.type) hw rfl hx e1
      exact ⟨v', h1, by rw [hrun w ho]; simp only [builtin, Sem.run_bind, h2, Result.andThen_ok, Sem.run_pure]⟩
    · simp at he

theorem aminmax_spec {mx : Bool} {l : List AV} {v : AV} (he : aminmax mx l = some v) : ∃ k x r, l = .int k x :: r ∧ aminmaxFrom mx k x r = some v := by
  unfold aminmax at he
  split at he
  · exact ⟨_, _, _, rfl, he⟩
  · simp at he

theorem minmax_still {c : Call} {mx : Bool} (ho : o.op = .call c) (hc : c.callee = .builtin (if mx then .max else .min)) (hρ : Operands P ι regs ρ) {v : AV} {h' : AHeap} (he : oCall c P regs h = .val v h') :
    StillR P ι ρ o h v h' := by
  unfold oCall xCall at he
  split at he
  · simp at he
  · rename_i args ha
    rw [hc] at he
    have he' : oval h (aminmax mx args) = .val v h' := by cases mx <;> exact he
    obtain ⟨e1, e2⟩ := oval_spec he'
    obtain ⟨k, x, r, rfl, e1⟩ := aminmax_spec e1
    obtain ⟨args', ⟨x', r', hx, hr, rfl⟩, consts, hrun⟩ := builtin_args (o := o) hc hρ ha
    obtain rfl := VR_int hx
    obtain ⟨v', h1, h2⟩ := minmax_run (P := P) mx k hr e1
    refine .inl ⟨e2, v', h1, fun w => ?_⟩
    rw [hrun w ho]
    have := h2 w
    cases mx
    · simp only [builtin, Bool.false_eq_true, if_false, Builtin.min_, Sem.run_bind] at this ⊢
      rw [this]; rfl
    · simp only [builtin, if_true, Builtin.max_, Sem.run_bind] at this ⊢
      rw [this]; rfl

/-- An operation that looks at nothing but its operands. -/
theorem still_sound (hc : opClass P o.op = .still) (hρ : Operands P ι regs ρ) {v : AV} {g : AHeap} (he : aexec o.op P regs h = .val v g) : StillR P ι ρ o h v g := by
  cases ho : o.op <;> rw [ho] at hc he <;> first | (cases hc; done) | (change AOut.fail = _ at he; cases he; done) | skip
  case move x => obtain ⟨e1, e2⟩ := oval_spec he; exact .inl ⟨e2, move_sound (.inl ho) hρ e1⟩
  case assign x => obtain ⟨e1, e2⟩ := oval_spec he; exact .inl ⟨e2, move_sound (.inr ho) hρ e1⟩
  case pick c a b => exact .inl (pick_sound ho hρ he)
  case alloc t => obtain ⟨z, hz, rfl, rfl⟩ := xVar_spec he; exact .inr ⟨_, rfl, alloc_sound ho hz⟩
  case box t x => obtain ⟨z, hz, rfl, rfl⟩ := xVar_spec he; exact .inr ⟨_, rfl, box_sound ho hρ hz⟩
  case build t parts => exact .inl (build_sound ho hρ he)
  case buildSlice t n parts => exact .inr (buildSlice_sound ho hρ he)
  case nilCheck x => exact .inl (nilCheck_sound ho hρ he)
  case binOp op t x y t' => exact .inl (bin_sound ho hρ he)
  case unOp op t x => exact .inl (un_sound ho hρ he)
  case convert s d x => exact convert_still ho hρ hc he
  case makeInterface t x => exact .inl (iface_sound ho hρ he)
  case makeFunc fn first captured => exact func_still ho hρ he
  case makeMap t r => exact .inr (makeMap_sound ho hρ he)
  case makeSlice t l c => exact .inr (makeSlice_sound ho hρ he)
  case slice t x lo hi mx => exact .inl (slice_sound ho hρ he)
  case fieldAddr t x f => exact .inl (fieldAddr_sound ho hρ he)
  case field t x f => exact .inl (field_sound ho hρ he)
  case indexAddr t x i => exact .inl (indexAddr_sound ho hρ he)
  case index t x i => exact .inl (index_sound ho hρ he)
  case typeAssert x xt a ok => exact .inl (assert_sound ho hρ he)
  case extract t i => exact .inl (extract_sound ho hρ he)
  case call c =>
    have hc' : callClass c = .still := hc
    unfold callClass at hc'
    split at hc'
    · cases hc'
    · rename_i hcc; exact minmax_still (mx := false) ho hcc hρ he
    · rename_i hcc; exact minmax_still (mx := true) ho hcc hρ he
    · cases hc'

theorem reads_sound (hc : opClass P o.op = .reads) (hρ : Operands P ι regs ρ) {v : AV} {g : AHeap} (he : aexec o.op P regs h = .val v g) : g = h ∧ ReadR P ι ρ o h v := by
  cases ho : o.op <;> rw [ho] at hc he <;> first | (cases hc; done) | (change AOut.fail = _ at he; cases he; done) | skip
  case load t a => exact load_sound ho hρ he
  case lookup t x i ok => exact lookup_sound ho hρ he
  case convert s d x => exact convert_reads ho hρ hc he
  case call c =>
    have hc' : callClass c = .reads := hc
    unfold callClass at hc'
    split at hc'
    · rename_i hcc; exact len_reads ho hcc hρ he
    · cases hc'
    · cases hc'
    · cases hc'

end Go.AM

namespace Go.AM
variable {P : Program} {ι : Inj} {h : AHeap} {w : World} {regs : Tr AV} {ρ : Operand → Value} {o : Oper}

theorem x1_cases (f : AV → AOut) (a : Option AV) : x1 f a = .fail ∨ ∃ x, a = some x ∧ x1 f a = f x := by
  cases a with
  | none => exact .inl rfl
  | some x => exact .inr ⟨x, rfl, rfl⟩

theorem x2_cases (f : AV → AV → AOut) (a b : Option AV) : x2 f b a = .fail ∨ ∃ x y, a = some x ∧ b = some y ∧ x2 f b a = f x y := by
  cases a with
  | none => exact .inl rfl
  | some x =>
    cases b with
    | none => exact .inl rfl
    | some y => exact .inr ⟨x, y, rfl, rfl, rfl⟩

theorem x3_cases (f : AV → AV → AV → AOut) (a b c : Option AV) : x3 f b c a = .fail ∨ ∃ x y z, a = some x ∧ b = some y ∧ c = some z ∧ x3 f b c a = f x y z := by
  cases a with
  | none => exact .inl rfl
  | some x =>
    cases b with
    | none => exact .inl rfl
    | some y =>
      cases c with
      | none => exact .inl rfl
      | some z => exact .inr ⟨x, y, z, rfl, rfl, rfl, rfl⟩

theorem oval_cases (h : AHeap) (a : Option AV) : oval h a = .fail ∨ ∃ v, a = some v ∧ oval h a = .val v h := by
  cases a with
  | none => exact .inl rfl
  | some v => exact .inr ⟨v, rfl, rfl⟩

theorem ovalh_cases (a : Option (AV × AHeap)) : ovalh a = .fail ∨ ∃ v g, a = some (v, g) ∧ ovalh a = .val v g := by
  rcases a with _ | ⟨v, g⟩
  · exact .inl rfl
  · exact .inr ⟨v, g, rfl, rfl⟩

theorem oskip_cases (a : Option AHeap) : oskip a = .fail ∨ ∃ g, a = some g ∧ oskip a = .skip g := by
  cases a with
  | none => exact .inl rfl
  | some v => exact .inr ⟨v, rfl, rfl⟩

/-- Either nothing is said, or a value comes. -/
def ValR (r : AOut) : Prop := r = .fail ∨ ∃ v g, r = .val v g

theorem valR_oval (h : AHeap) (a : Option AV) : ValR (oval h a) := by
  rcases oval_cases h a with h | ⟨v, _, h⟩
  · exact .inl h
  · exact .inr ⟨_, _, h⟩

theorem valR_ovalh (a : Option (AV × AHeap)) : ValR (ovalh a) := by
  rcases ovalh_cases a with h | ⟨v, g, _, h⟩
  · exact .inl h
  · exact .inr ⟨_, _, h⟩

theorem valR_x1 {f : AV → AOut} (hf : ∀ x, ValR (f x)) (a : Option AV) : ValR (x1 f a) := by
  rcases x1_cases f a with h | ⟨x, _, h⟩
  · exact .inl h
  · rw [h]; exact hf x

theorem valR_x2 {f : AV → AV → AOut} (hf : ∀ x y, ValR (f x y)) (a b : Option AV) : ValR (x2 f b a) := by
  rcases x2_cases f a b with h | ⟨x, y, _, _, h⟩
  · exact .inl h
  · rw [h]; exact hf x y

theorem valR_var (h : AHeap) (z : Option AV) : ValR (xVar h z) := by
  cases z with
  | none => exact .inl rfl
  | some z => exact .inr ⟨_, _, rfl⟩

theorem valR_still (hc : opClass P o.op = .still ∨ opClass P o.op = .reads) : ValR (aexec o.op P regs h) := by
  cases ho : o.op <;> rw [ho] at hc <;> first | (rcases hc with hc | hc <;> cases hc; done) | skip
  case move x => exact valR_oval _ _
  case assign x => exact valR_oval _ _
  case pick c a b =>
    change ValR (xPick P regs h a b (aeval P regs c))
    unfold xPick
    split
    · exact valR_oval _ _
    · exact valR_oval _ _
    · exact .inl rfl
  case alloc t => exact valR_var _ _
  case box t x => exact valR_var _ _
  case build t parts =>
    change ValR (xBuild P h t (aparts P regs parts.toList))
    unfold xBuild
    split
    · exact valR_oval _ _
    · exact .inl rfl
  case buildSlice t n parts =>
    change ValR (xBuildSlice P h t n (aparts P regs parts.toList))
    unfold xBuildSlice xBuildElem xRow
    repeat' split
    all_goals first | exact .inl rfl | exact .inr ⟨_, _, rfl⟩
  case load t a => exact valR_x1 (fun _ => valR_oval _ _) _
  case lookup t x i ok => exact valR_x2 (fun _ _ => valR_oval _ _) _ _
  case nilCheck x => exact valR_x1 (fun _ => valR_oval _ _) _
  case binOp op t x y t' => exact valR_x2 (fun _ _ => valR_oval _ _) _ _
  case unOp op t x => exact valR_x1 (fun _ => valR_oval _ _) _
  case convert s d x => exact valR_x1 (fun _ => valR_ovalh _) _
  case makeInterface t x =>
    refine valR_x1 (fun v => ?_) _
    unfold xIface
    split
    · exact .inl rfl
    · exact .inr ⟨_, _, rfl⟩
    · exact .inl rfl
  case makeFunc fn first captured =>
    change ValR (xMakeFunc P regs h fn first captured)
    unfold xMakeFunc xFunc
    repeat' split
    all_goals first | exact .inl rfl | exact .inr ⟨_, _, rfl⟩
  case makeMap t r =>
    change ValR (xMap P h t (aopt P regs r))
    unfold xMap
    repeat' split
    all_goals first | exact .inl rfl | exact .inr ⟨_, _, rfl⟩
  case makeSlice t l c =>
    refine valR_x2 (fun v u => ?_) _ _
    unfold xMakeSlice xMakeElem
    repeat' split
    all_goals first | exact .inl rfl | exact .inr ⟨_, _, rfl⟩
  case slice t x lo hi mx =>
    change ValR (xSlice P h t (aeval P regs x) (aopt P regs lo) (aopt P regs hi) (aopt P regs mx))
    unfold xSlice
    repeat' split
    all_goals first | exact .inl rfl | exact valR_oval _ _
  case fieldAddr t x f => exact valR_x1 (fun _ => valR_oval _ _) _
  case field t x f => exact valR_x1 (fun _ => valR_oval _ _) _
  case indexAddr t x i => exact valR_x2 (fun _ _ => valR_oval _ _) _ _
  case index t x i => exact valR_x2 (fun _ _ => valR_oval _ _) _ _
  case typeAssert x xt a ok => exact valR_x1 (fun _ => valR_oval _ _) _
  case extract t i =>
    refine valR_x1 (fun v => ?_) _
    unfold xExtract
    split
    · exact valR_oval _ _
    · exact .inl rfl
  case call c =>
    change ValR (xCall P regs h c (aevals P regs c.args.toList))
    have hc' : callClass c = .still ∨ callClass c = .reads := hc
    unfold callClass at hc'
    unfold xCall
    split
    · exact .inl rfl
    · split at hc'
      · rename_i hcc; rw [hcc]
        simp only [xBuiltin, xLen]
        split
        · exact valR_oval _ _
        · exact .inl rfl
      · rename_i hcc; rw [hcc]; exact valR_oval _ _
      · rename_i hcc; rw [hcc]; exact valR_oval _ _
      · rcases hc' with h | h <;> cases h

theorem panic_out {x : Operand} (ho : o.op = .panic x) (hρ : Operands P ι regs ρ) : OutR P ι ρ o h w (x1 xPanic (aeval P regs x)) := by
  rcases x1_cases xPanic (aeval P regs x) with he | ⟨a, ha, he⟩
  · rw [he]; trivial
  · rw [he]
    unfold xPanic
    split
    · rename_i t v
      have hv := hρ x _ ha
      have hv0 := hv
      obtain ⟨v', hv', e⟩ := hv
      refine ⟨ρ x, hv0, ?_⟩
      rw [e]
      simp only [execOp, ho, e, Instr.panic]
      rfl
    · trivial

theorem callValue_out {c : Call} {f : Operand} {args : List AV} (ho : o.op = .call c) (hc : c.callee = .value f) (hρ : Operands P ι regs ρ) (ha : aevals P regs c.args.toList = some args) :
    OutR P ι ρ o h w (x1 (xCallValue args) (aeval P regs f)) := by
  rcases x1_cases (xCallValue args) (aeval P regs f) with he | ⟨a, hf, he⟩
  · rw [he]; trivial
  · rw [he]
    have hargs := aevals_VRs hρ ha
    have hm : c.args.map ρ = (c.args.toList.map ρ).toArray := by apply Array.ext'; simp
    unfold xCallValue
    split
    · rename_i f1 first captured
      obtain ⟨a', c', h1, h2, e⟩ := hρ f _ hf
      refine ⟨a' ++ c.args.toList.map ρ ++ c', VRs.append (VRs.append h1 hargs) h2, ?_⟩
      simp only [execOp, ho, resolve, hc, e, Deferred.ofValue, Sem.run_bind, Sem.run_pure, Result.andThen_ok, invoke, hm]
      congr 2
      apply Array.ext'
      simp
    · rename_i l
      obtain ⟨L, hL, e⟩ := hρ f _ hf
      refine ⟨L, c.args.toList.map ρ, hL, hargs, ?_⟩
      simp only [execOp, ho, resolve, hc, e, Deferred.ofValue, Sem.run_bind, Sem.run_pure, Result.andThen_ok, invoke, hm]
      congr 2
      apply Array.ext'
      simp
    · trivial

theorem deferValue_out {c : Call} (ho : o.op = .defer c) (hρ : Operands P ι regs ρ) : OutR P ι ρ o h w (xDefer P regs c (aevals P regs c.args.toList)) := by
  unfold xDefer
  split
  · trivial
  · rename_i args ha
    split
    · rename_i f hc
      rcases x1_cases (xDeferValue args) (aeval P regs f) with he | ⟨a, hf, he⟩
      · rw [he]; trivial
      · rw [he]
        have hargs := aevals_VRs hρ ha
        have hm : c.args.map ρ = (c.args.toList.map ρ).toArray := by apply Array.ext'; simp
        unfold xDeferValue
        split
        · rename_i f1 first captured
          obtain ⟨a', c', h1, h2, e⟩ := hρ f _ hf
          refine ⟨{ target := .fn (.func f1) c'.toArray, args := (a' ++ c.args.toList.map ρ).toArray }, c, ⟨c', _, h2, VRs.append h1 hargs, rfl⟩, ho, ?_⟩
          simp only [resolve, hc, e, Deferred.ofValue, Sem.run_pure, hm]
          congr 2
          apply Array.ext'
          simp
        · trivial
    · trivial

theorem call_out {c : Call} (ho : o.op = .call c) (hρ : Operands P ι regs ρ) (hh : HR ι h w) : OutR P ι ρ o h w (xCall P regs h c (aevals P regs c.args.toList)) := by
  unfold xCall
  split
  · trivial
  · rename_i args ha
    split
    · rename_i f hc
      exact callValue_out ho hc hρ ha
    · rename_i b hc
      obtain ⟨args', hv, consts, hrun⟩ := builtin_args (o := o) hc hρ ha
      cases b <;> first | (change OutR P ι ρ o h w .fail; trivial; done) | skip
      case append =>
        simp only [xBuiltin, xAppend]
        split
        · rename_i s x
          obtain ⟨s', r, hs, ⟨x', r', hx, hr', rfl⟩, rfl⟩ := hv
          obtain rfl : r' = [] := hr'
          rcases ovalh_cases (aappend P h c.argTypes s x) with he | ⟨v, g, he1, he⟩
          · rw [he]; trivial
          · rw [he]
            obtain ⟨κ, u, v', h1, h2, h3, h4⟩ := append_run (type := o.type) hh hs hx he1
            exact ⟨κ, u, v', by rw [hrun w ho]; simp only [builtin, Sem.run_bind, h1, Result.andThen_ok, Sem.run_pure], h2, h3, h4⟩
        · trivial
      case copy =>
        simp only [xBuiltin, xCopy]
        split
        · rename_i s x
          obtain ⟨s', r, hs, ⟨x', r', hx, hr', rfl⟩, rfl⟩ := hv
          obtain rfl : r' = [] := hr'
          rcases ovalh_cases (acopy P h c.argTypes s x) with he | ⟨v, g, he1, he⟩
          · rw [he]; trivial
          · rw [he]
            obtain ⟨κ, u, v', h1, h2, h3, h4⟩ := copy_run (type := o.type) hh hs hx he1
            exact ⟨κ, u, v', by rw [hrun w ho]; simp only [builtin, Sem.run_bind, h1, Result.andThen_ok, Sem.run_pure], h2, h3, h4⟩
        · trivial
      case len =>
        have key : oCall c P regs h = xLen P h c.argTypes args := by simp only [oCall, xCall, ha, hc, xBuiltin]
        change OutR P ι ρ o h w (xLen P h c.argTypes args)
        rcases (show ValR (xLen P h c.argTypes args) by
          unfold xLen
          split
          · exact valR_oval _ _
          · exact .inl rfl) with he | ⟨v, g, he⟩
        · rw [he]; trivial
        · rw [he]
          obtain ⟨rfl, hr⟩ := len_reads ho hc hρ (key.trans he)
          exact outR_read hh hr
      case max =>
        have key : oCall c P regs h = oval h (aminmax true args) := by simp only [oCall, xCall, ha, hc, xBuiltin]
        change OutR P ι ρ o h w (oval h (aminmax true args))
        rcases valR_oval h (aminmax true args) with he | ⟨v, g, he⟩
        · rw [he]; trivial
        · rw [he]; exact outR_still hh (minmax_still (mx := true) ho hc hρ (key.trans he))
      case min =>
        have key : oCall c P regs h = oval h (aminmax false args) := by simp only [oCall, xCall, ha, hc, xBuiltin]
        change OutR P ι ρ o h w (oval h (aminmax false args))
        rcases valR_oval h (aminmax false args) with he | ⟨v, g, he⟩
        · rw [he]; trivial
        · rw [he]; exact outR_still hh (minmax_still (mx := false) ho hc hρ (key.trans he))
      case recover =>
        change (execOp ρ o).run P w = .ok .recover w
        rw [hrun w ho]; rfl
    · trivial

theorem range_out {t : TypeId} {x : Operand} {a : AV} (ho : o.op = .range t x) (hv : VR ι a (ρ x)) (hh : HR ι h w) : OutR P ι ρ o h w (xRange P h t a) := by
  unfold xRange
  split
  · rename_i s
    split
    · rename_i hu
      have hv' : ρ x = .string s := hv
      refine outR_alloc hh (k := .iter s 0) fun w => ?_
      refine ⟨.stringIter s 0, { w with heap := w.heap.push (.stringIter s 0) }, 0, 0, .pointer (some ⟨w.heap.size, 0, none⟩), pushed_push rfl rfl rfl rfl, ?_, fun κ _ hk => ⟨⟨rfl, rfl⟩, _, hk, rfl⟩⟩
      simp only [execOp, ho, hv', Instr.range]
      simp [und_run hu]
    · trivial
  · trivial

theorem next_out {x : Operand} {a : AV} (ho : o.op = .next x true) (hv : VR ι a (ρ x)) (hh : HR ι h w) : OutR P ι ρ o h w (xNext h a) := by
  unfold xNext
  split
  · rename_i b
    split
    · rename_i s pos hg
      obtain ⟨L, hL, hp⟩ := hv
      obtain ⟨hr, hb0⟩ := hh.blocks b _ L hg hL
      rw [hb0] at hp
      have hlt := hh.bound b L hL
      have hget : (getObj L.blk).run P w = .ok (.stringIter s pos) w := by simp [getObj, Sem.run, hr]
      unfold iterNext
      split
      · rename_i hps
        have hps' : pos < s.size := Nat.le_of_ble_eq_true hps
        obtain ⟨e1, e2⟩ := set_ext (k' := .iter s (pos + (Utf8.decode s pos).2)) hh hL hg rfl (rowSet_setObj w (.stringIter s (pos + (Utf8.decode s pos).2)) hlt) ⟨rfl, hb0⟩
        refine ⟨ι, _, .tuple #[.bool true, .int .i64 pos, .int .i32 (Utf8.decode s pos).1], ?_, ⟨[_, _, _], ⟨_, _, rfl, ⟨_, _, rfl, ⟨_, _, rfl, rfl, rfl⟩, rfl⟩, rfl⟩, rfl⟩, e1, e2⟩
        simp only [execOp, ho, hp, Instr.next, Sem.run_bind, hget, Result.andThen_ok, Nat.zero_add]
        simp [hps', setObj, Sem.run, hr, goInt]
      · rename_i hps
        have hps' : ¬ pos < s.size := fun hc => by
          have : Nat.blt pos s.size = true := Nat.ble_eq_true_of_le hc
          rw [this] at hps; cases hps
        refine ⟨ι, w, .tuple #[.bool false], ?_, ⟨[_], ⟨_, _, rfl, rfl, rfl⟩, rfl⟩, hh, Ext.refl _ _ _⟩
        simp only [execOp, ho, hp, Instr.next, Sem.run_bind, hget, Result.andThen_ok, Nat.zero_add]
        simp [hps']
    · trivial
  · trivial

theorem aexec_sound (o : Oper) (hρ : Operands P ι regs ρ) (hh : HR ι h w) : OutR P ι ρ o h w (aexec o.op P regs h) := by
  have hcls : (opClass P o.op = .still ∨ opClass P o.op = .reads) → OutR P ι ρ o h w (aexec o.op P regs h) := by
    intro hc
    rcases valR_still (regs := regs) (h := h) hc with he | ⟨v, g, he⟩
    · rw [he]; trivial
    · rcases hc with hc | hc
      · rw [he]; exact outR_still hh (still_sound hc hρ he)
      · obtain ⟨rfl, hr⟩ := reads_sound hc hρ he
        rw [he]; exact outR_read hh hr
  cases ho : o.op <;> rw [ho] at hcls <;> first | (exact hcls (.inl rfl)) | (exact hcls (.inr rfl)) | (change OutR P ι ρ o h w .fail; trivial; done) | skip
  case store t a x =>
    change OutR P ι ρ o h w (x2 (fun a v => oskip (astore P h t a v)) (aeval P regs x) (aeval P regs a))
    rcases x2_cases (fun a v => oskip (astore P h t a v)) (aeval P regs a) (aeval P regs x) with he | ⟨b, v, hb, hv, he⟩
    · rw [he]; trivial
    · rw [he]
      rcases oskip_cases (astore P h t b v) with he | ⟨g, hg, he⟩
      · rw [he]; trivial
      · rw [he]
        obtain ⟨u, h1, h2, h3⟩ := store_run (P := P) hh (hρ a _ hb) (hρ x _ hv) hg
        exact ⟨ι, u, by simp only [execOp, ho, Sem.run_bind, h1, Result.andThen_ok, Sem.run_pure], h2, h3⟩
  case mapUpdate t m k v =>
    change OutR P ι ρ o h w (x3 (fun m k v => oskip (amapUpdate P h t m k v)) (aeval P regs k) (aeval P regs v) (aeval P regs m))
    rcases x3_cases (fun m k v => oskip (amapUpdate P h t m k v)) (aeval P regs m) (aeval P regs k) (aeval P regs v) with he | ⟨a, b, c, ha, hb, hc, he⟩
    · rw [he]; trivial
    · rw [he]
      rcases oskip_cases (amapUpdate P h t a b c) with he | ⟨g, hg, he⟩
      · rw [he]; trivial
      · rw [he]
        obtain ⟨u, h1, h2, h3⟩ := mapUpdate_run (P := P) hh (hρ m _ ha) (hρ k _ hb) (hρ v _ hc) hg
        exact ⟨ι, u, by simp only [execOp, ho, Sem.run_bind, h1, Result.andThen_ok, Sem.run_pure], h2, h3⟩
  case insert t m k v =>
    change OutR P ι ρ o h w (x3 (fun m k v => oskip (amapUpdate P h t m k v)) (aeval P regs k) (aeval P regs v) (aeval P regs m))
    rcases x3_cases (fun m k v => oskip (amapUpdate P h t m k v)) (aeval P regs m) (aeval P regs k) (aeval P regs v) with he | ⟨a, b, c, ha, hb, hc, he⟩
    · rw [he]; trivial
    · rw [he]
      rcases oskip_cases (amapUpdate P h t a b c) with he | ⟨g, hg, he⟩
      · rw [he]; trivial
      · rw [he]
        obtain ⟨u, h1, h2, h3⟩ := mapUpdate_run (P := P) hh (hρ m _ ha) (hρ k _ hb) (hρ v _ hc) hg
        exact ⟨ι, u, by simp only [execOp, ho, Sem.run_bind, h1, Result.andThen_ok, Sem.run_pure], h2, h3⟩
  case convert s d x =>
    change OutR P ι ρ o h w (x1 (fun v => ovalh (aconvert P h s d v)) (aeval P regs x))
    rcases valR_x1 (fun v => valR_ovalh (aconvert P h s d v)) (aeval P regs x) with he | ⟨v, g, he⟩
    · rw [he]; trivial
    · rw [he]; exact convert_out ho hρ hh he
  case call c => exact call_out ho hρ hh
  case range t x =>
    change OutR P ι ρ o h w (x1 (xRange P h t) (aeval P regs x))
    rcases x1_cases (xRange P h t) (aeval P regs x) with he | ⟨a, ha, he⟩
    · rw [he]; trivial
    · rw [he]; exact range_out ho (hρ x _ ha) hh
  case next x b =>
    cases b with
    | false => change OutR P ι ρ o h w .fail; trivial
    | true =>
      change OutR P ι ρ o h w (x1 (xNext h) (aeval P regs x))
      rcases x1_cases (xNext h) (aeval P regs x) with he | ⟨a, ha, he⟩
      · rw [he]; trivial
      · rw [he]; exact next_out ho (hρ x _ ha) hh
  case defer c => exact deferValue_out ho hρ
  case panic x => exact panic_out ho hρ

end Go.AM
