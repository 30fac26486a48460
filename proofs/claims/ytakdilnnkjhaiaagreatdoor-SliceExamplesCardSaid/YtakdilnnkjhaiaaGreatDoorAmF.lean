/- A call of which the evaluator says that it returns true, does so in every world in which the package's variables are as they are laid, and leaves the memory that was there. -/
import Derived.Test.YtakdilnnkjhaiaaGreatDoorAmE
import GoSem.ClaimJoined
import Derived.ChangeBears2
import Derived.DataReads
import Derived.Handed
namespace Go.AM
variable {P : Program} {ι : Inj} {w : World}

/-- What the evaluator says of a call, holds of the machine. -/
theorem calls_of_ev (hm : P.follows .mixedOrders = true) {n : Nat} {f : FuncId} {args : List AV} {h0 : AHeap} {v : AV} {s' : ASt} (he : ev P n (.call f args) ⟨.nil, 0, [], .none, h0⟩ = some (.norm, v, s'))
    {args' : List Value} (ha : VRs ι args args') (hh : HR ι h0 w) (hg : GR P ι) :
    Calls P f args'.toArray w fun e u => ∃ κ v', e = .returned v' ∧ VR κ v v' ∧ HR κ s'.h u ∧ Ext ι h0 w κ s'.h u := by
  intro cs
  obtain ⟨_, hc⟩ := (ev_sound hm n).call f args _ _ he
  obtain ⟨κ, u, h1, h2, h3, fr, v', e1, e2, e3, e4, e5, e6, e7⟩ := hc .normal cs args' ι w ha hh hg (panInv_normal cs)
  have hp := h3.normal
  simp only at hp h1 h2
  rw [show (AEx.norm, v, s').2.2.pan = s'.pan from rfl, hp] at e7
  exact ⟨.returned v', u, fr, ⟨κ, v', rfl, e5, h1, h2⟩, e7, e1, e3, e4, e2, e6⟩

end Go.AM

namespace Go.AM
open Go

section lay
variable (P : Program)

/-! The abstract cells of a datum, and the blocks that lie behind it. -/
noncomputable def layL (f : DataW Unit → Nat → Option (List AV × List ABlk)) (size : Nat) : List (DataW Unit) → Nat → Option (List AV × List ABlk)
  | [], _ => some ([], [])
  | d :: l, b => match f d b with
    | some (as, ks) => match Nat.beq as.length size with
      | true => match layL f size l (b + ks.length) with
        | some (as', ks') => some (as ++ as', ks ++ ks')
        | none => none
      | false => none
    | none => none

noncomputable def layF (f : TypeId → DataW Unit → Nat → Option (List AV × List ABlk)) : List Field → Nat → List (DataW Unit) → Nat → Option (List AV × List ABlk)
  | [], _, [], _ => some ([], [])
  | fd :: fs, pos, d :: ds, b => match Nat.beq fd.offset pos with
    | true => match f fd.type d b with
      | some (as, ks) => match Nat.beq as.length (P.cellsOf fd.type) with
        | true => match layF f fs (pos + as.length) ds (b + ks.length) with
          | some (as', ks') => some (as ++ as', ks ++ ks')
          | none => none
        | false => none
      | none => none
    | false => none
  | _, _, _, _ => none

noncomputable def layS (b n es : Nat) : Option (List AV × List ABlk) → Option (List AV × List ABlk)
  | some (a :: as, ks) => some ([.slice b 0 n n es], .cells (a :: as) true true :: ks)
  | _ => none

noncomputable def layC (n : Nat) : Option (List AV × List ABlk) → Option (List AV × List ABlk)
  | some (as, ks) => match Nat.beq as.length n with
    | true => some (as, ks)
    | false => none
  | none => none

noncomputable def lay : Nat → TypeId → DataW Unit → Nat → Option (List AV × List ABlk)
  | 0, _, _, _ => none
  | n + 1, t, d, b => match P.underlying t with
    | some .bool => match d with
      | .lit (.bool c) => some ([.bool c], [])
      | _ => none
    | some (.int _) => match d with
      | .lit (.int k' z) => some ([.int k' z], [])
      | _ => none
    | some .string => match d with
      | .lit (.string l) => some ([.str ⟨⟨l⟩⟩], [])
      | _ => none
    | some (.slice e) => match d with
      | .nil => some ([.nils], [])
      | .slice es [] => layS b es.length (P.cellsOf e) (layL (lay n e) (P.cellsOf e) es (b + 1))
      | _ => none
    | some (.struct fs) => match d with
      | .agg ds => layC (P.cellsOf t) (layF P (lay n) fs.toList 0 ds b)
      | _ => none
    | some (.array m e) => match d with
      | .agg ds => match Nat.beq ds.length m with
        | true => layC (P.cellsOf t) (layL (lay n e) (P.cellsOf e) ds b)
        | false => none
      | _ => none
    | _ => none
end lay

variable {P : Program} {w : World}

/-- These cells hold what was said, wherever the blocks behind lie. -/
def LayOk (w : World) (b : Nat) (cs : List Value) (as : List AV) (ks : List ABlk) : Prop :=
  ∃ locs : List Loc, locs.length = ks.length ∧ ∀ ι : Inj, (∀ (i : Nat) (L : Loc), locs[i]? = some L → ι (b + i) = some L) →
    VRs ι as cs ∧ ∀ (i : Nat) (k : ABlk) (L : Loc), ks[i]? = some k → locs[i]? = some L → BR ι L w.heap[L.blk]? k ∧ L.blk < w.heap.size

theorem layOk_nil (b : Nat) : LayOk w b [] [] [] := ⟨[], rfl, fun _ _ => ⟨rfl, fun i k L h => by simp at h⟩⟩

theorem layOk_one {b : Nat} {a : AV} {v : Value} (h : ∀ ι, VR ι a v) : LayOk w b [v] [a] [] := ⟨[], rfl, fun ι _ => ⟨⟨v, [], h ι, rfl, rfl⟩, fun i k L h => by simp at h⟩⟩

theorem LayOk.append {b : Nat} {cs cs' : List Value} {as as' : List AV} {ks ks' : List ABlk} (h : LayOk w b cs as ks) (h' : LayOk w (b + ks.length) cs' as' ks') : LayOk w b (cs ++ cs') (as ++ as') (ks ++ ks') := by
  obtain ⟨l, h1, h2⟩ := h
  obtain ⟨l', h3, h4⟩ := h'
  refine ⟨l ++ l', by simp [h1, h3], fun ι hι => ?_⟩
  obtain ⟨a1, a2⟩ := h2 ι (fun i L hL => hι i L (by rw [List.getElem?_append_left (List.getElem?_eq_some_iff.1 hL).1]; exact hL))
  obtain ⟨b1, b2⟩ := h4 ι (fun i L hL => by
    have := hι (l.length + i) L (by rw [List.getElem?_append_right (by omega)]; simpa using hL)
    rw [Nat.add_assoc, ← h1]; exact this)
  refine ⟨a1.append b1, fun i k L hk hL => ?_⟩
  by_cases hi : i < ks.length
  · rw [List.getElem?_append_left hi] at hk
    rw [List.getElem?_append_left (by omega)] at hL
    exact a2 i k L hk hL
  · rw [List.getElem?_append_right (by omega)] at hk
    rw [List.getElem?_append_right (by omega), h1] at hL
    exact b2 _ k L hk hL

section
variable {enc : TypeId × Value → Unit}

/-- A reader of data, and what is laid for it. -/
def Reads (enc : TypeId × Value → Unit) (P : Program) (w : World) (t : TypeId) (f : DataW Unit → Nat → Option (List AV × List ABlk)) : Prop :=
  ∀ (m : Nat) (cs : List Value) (d : DataW Unit) (p : List MemPlace) (b : Nat) (as : List AV) (ks : List ABlk), DataW.trod enc P w 0 (fun _ => true) false m t cs = some (d, p) → f d b = some (as, ks) → LayOk w b cs as ks

theorem layL_length {f : DataW Unit → Nat → Option (List AV × List ABlk)} {size : Nat} : ∀ {ds : List (DataW Unit)} {b : Nat} {as : List AV} {ks : List ABlk}, layL f size ds b = some (as, ks) → as.length = ds.length * size
  | [], b, as, ks, h => by
    simp only [layL, Option.some.injEq, Prod.mk.injEq] at h
    rw [← h.1]; simp
  | d :: ds, b, as, ks, h => by
    simp only [layL] at h
    split at h
    · split at h
      · rename_i hb
        split at h
        · rename_i h2
          simp only [Option.some.injEq, Prod.mk.injEq] at h
          rw [← h.1, List.length_append, layL_length h2, Nat.eq_of_beq_eq_true hb, List.length_cons, Nat.add_mul]
          omega
        · cases h
      · cases h
    · cases h

/-- Elements that lie one behind the other. -/
theorem layL_sound {t : TypeId} {f : DataW Unit → Nat → Option (List AV × List ABlk)} (hf : Reads enc P w t f) {size : Nat} :
    ∀ (ds : List (DataW Unit)) (b : Nat) (as : List AV) (ks : List ABlk) (css : List (List Value)), layL f size ds b = some (as, ks) →
      css.length = ds.length → (∀ (i : Nat) cs d, css[i]? = some cs → ds[i]? = some d → ∃ m p, DataW.trod enc P w 0 (fun _ => true) false m t cs = some (d, p)) → LayOk w b css.flatten as ks
  | [], b, as, ks, [], h, _, _ => by
    simp only [layL, Option.some.injEq, Prod.mk.injEq] at h
    obtain ⟨rfl, rfl⟩ := h
    exact layOk_nil b
  | [], _, _, _, _ :: _, _, hl, _ => by simp at hl
  | _ :: _, _, _, _, [], _, hl, _ => by simp at hl
  | d :: ds, b, as, ks, cs :: css, h, hl, ht => by
    simp only [layL] at h
    split at h
    · rename_i as1 ks1 h1
      split at h
      · split at h
        · rename_i as2 ks2 h2
          simp only [Option.some.injEq, Prod.mk.injEq] at h
          obtain ⟨rfl, rfl⟩ := h
          obtain ⟨m, p, hd⟩ := ht 0 cs d rfl rfl
          rw [List.flatten_cons]
          refine LayOk.append (hf m cs d p b as1 ks1 hd h1) ?_
          exact layL_sound hf ds _ as2 ks2 css h2 (by simpa using hl) (fun i cs d h3 h4 => ht (i + 1) cs d (by simpa using h3) (by simpa using h4))
        · cases h
      · cases h
    · cases h

theorem mapM_at {β : Type} {g : Nat → Option β} {n : Nat} {l : List β} (h : (List.range n).mapM g = some l) : l.length = n ∧ ∀ i, i < n → g i = l[i]? := by
  have h1 := mapM_some_length h
  rw [List.length_range] at h1
  refine ⟨h1, fun i hi => mapM_some_get h i i (by simp [hi])⟩

theorem chunks_flatten {α : Type} (size : Nat) : ∀ (n : Nat) (l : List α), l.length = n * size → ((List.range n).map fun i => (l.drop (i * size)).take size).flatten = l
  | 0, l, h => by
    have : l = [] := List.length_eq_zero_iff.1 (by simpa using h)
    subst this; simp
  | n + 1, l, h => by
    rw [List.range_succ_eq_map, List.map_cons, List.flatten_cons, List.map_map]
    have e : (List.map ((fun i => (l.drop (i * size)).take size) ∘ Nat.succ) (List.range n)) = (List.range n).map fun i => ((l.drop size).drop (i * size)).take size := by
      refine List.map_congr_left fun i _ => ?_
      simp only [Function.comp, List.drop_drop, Nat.succ_eq_add_one, Nat.add_mul, Nat.one_mul]
      rw [Nat.add_comm size]
    rw [e, chunks_flatten size n (l.drop size) (by rw [List.length_drop, h, Nat.add_mul]; omega)]
    simp

theorem layF_sound {f : TypeId → DataW Unit → Nat → Option (List AV × List ABlk)} (hf : ∀ t, Reads enc P w t (f t)) {m : Nat} {cs : List Value} :
    ∀ (fs : List Field) (pos : Nat) (ds : List (DataW Unit)) (b : Nat) (as : List AV) (ks : List ABlk) (xs : List (DataW Unit × List MemPlace)), layF P f fs pos ds b = some (as, ks) →
      fs.mapM (fun fd => DataW.trod enc P w 0 (fun _ => true) false m fd.type ((cs.drop fd.offset).take (P.cellsOf fd.type))) = some xs → xs.map (·.1) = ds → pos + as.length ≤ cs.length → LayOk w b ((cs.drop pos).take as.length) as ks
  | [], pos, [], b, as, ks, xs, h, _, _, _ => by
    simp only [layF, Option.some.injEq, Prod.mk.injEq] at h
    obtain ⟨rfl, rfl⟩ := h
    simp only [List.length_nil, List.take_zero]
    exact layOk_nil b
  | [], _, _ :: _, _, _, _, _, h, _, _, _ => by simp [layF] at h
  | _ :: _, _, [], _, _, _, _, h, _, _, _ => by simp [layF] at h
  | fd :: fs, pos, d :: ds, b, as, ks, xs, h, hx, hm, hle => by
    simp only [layF] at h
    split at h
    · rename_i ho
      have ho := Nat.eq_of_beq_eq_true ho
      split at h
      · rename_i as1 ks1 h1
        split at h
        · rename_i hl
          have hl := Nat.eq_of_beq_eq_true hl
          split at h
          · rename_i as2 ks2 h2
            simp only [Option.some.injEq, Prod.mk.injEq] at h
            obtain ⟨rfl, rfl⟩ := h
            rw [List.mapM_cons] at hx
            cases hd : DataW.trod enc P w 0 (fun _ => true) false m fd.type ((cs.drop fd.offset).take (P.cellsOf fd.type)) with
            | none => rw [hd] at hx; simp at hx
            | some y =>
              cases hr : fs.mapM (fun fd => DataW.trod enc P w 0 (fun _ => true) false m fd.type ((cs.drop fd.offset).take (P.cellsOf fd.type))) with
              | none => rw [hd, hr] at hx; simp at hx
              | some ys =>
                rw [hd, hr] at hx
                simp only [Option.pure_def, Option.bind_eq_bind, Option.bind_some, Option.some.injEq] at hx
                subst hx
                simp only [List.map_cons, List.cons.injEq] at hm
                obtain ⟨rfl, hm⟩ := hm
                rw [List.length_append] at hle ⊢
                have e : (cs.drop pos).take (as1.length + as2.length) = (cs.drop pos).take as1.length ++ (cs.drop (pos + as1.length)).take as2.length := by
                  rw [List.take_add, List.drop_drop]
                rw [e]
                refine LayOk.append (hf fd.type m _ y.1 y.2 b as1 ks1 (by rw [hl, ← ho]; exact hd) h1) ?_
                exact layF_sound hf fs (pos + as1.length) ds _ as2 ks2 ys h2 hr hm (by omega)
          · cases h
        · cases h
      · cases h
    · cases h

end
end Go.AM

namespace Go.AM
open Go
variable {P : Program} {w : World} {enc : TypeId × Value → Unit}

theorem layC_spec {n : Nat} {r : Option (List AV × List ABlk)} {as : List AV} {ks : List ABlk} (h : layC n r = some (as, ks)) : r = some (as, ks) ∧ as.length = n := by
  unfold layC at h
  split at h
  · split at h
    · rename_i hb
      simp only [Option.some.injEq, Prod.mk.injEq] at h
      obtain ⟨rfl, rfl⟩ := h
      exact ⟨rfl, Nat.eq_of_beq_eq_true hb⟩
    · cases h
  · cases h

theorem layS_spec {b n es : Nat} {r : Option (List AV × List ABlk)} {as : List AV} {ks : List ABlk} (h : layS b n es r = some (as, ks)) :
    ∃ as' ks', r = some (as', ks') ∧ as' ≠ [] ∧ as = [.slice b 0 n n es] ∧ ks = .cells as' true true :: ks' := by
  unfold layS at h
  split at h
  · simp only [Option.some.injEq, Prod.mk.injEq] at h
    exact ⟨_, _, rfl, by simp, h.1.symm, h.2.symm⟩
  · cases h

theorem trod_bool {t : TypeId} {m : Nat} {cs : List Value} {c : Bool} {p : List MemPlace} (hu : P.underlying t = some .bool) (h : DataW.trod enc P w 0 (fun _ => true) false m t cs = some (.lit (.bool c), p)) : cs = [.bool c] := by
  cases m with
  | zero => simp [DataW.trod] at h
  | succ m =>
    match cs with
    | [] => simp [DataW.trod, hu] at h
    | _ :: _ :: _ => simp [DataW.trod, hu] at h
    | [v] =>
      cases v <;> simp [DataW.trod, hu] at h
      rw [h.1]

theorem trod_int {t : TypeId} {m : Nat} {cs : List Value} {k k' : IntKind} {z : Int} {p : List MemPlace} (hu : P.underlying t = some (.int k)) (h : DataW.trod enc P w 0 (fun _ => true) false m t cs = some (.lit (.int k' z), p)) : cs = [.int k' z] := by
  cases m with
  | zero => simp [DataW.trod] at h
  | succ m =>
    match cs with
    | [] => simp [DataW.trod, hu] at h
    | _ :: _ :: _ => simp [DataW.trod, hu] at h
    | [v] =>
      cases v <;> simp [DataW.trod, hu] at h
      obtain ⟨⟨h1, _⟩, ⟨h2, h3⟩, _⟩ := h
      rw [h1, h2, h3]

theorem trod_str {t : TypeId} {m : Nat} {cs : List Value} {l : List UInt8} {p : List MemPlace} (hu : P.underlying t = some .string) (h : DataW.trod enc P w 0 (fun _ => true) false m t cs = some (.lit (.string l), p)) : cs = [.string ⟨⟨l⟩⟩] := by
  cases m with
  | zero => simp [DataW.trod] at h
  | succ m =>
    match cs with
    | [] => simp [DataW.trod, hu] at h
    | _ :: _ :: _ => simp [DataW.trod, hu] at h
    | [v] =>
      cases v <;> simp [DataW.trod, hu] at h
      rw [← h.2.1]

theorem trod_nils {t e : TypeId} {m : Nat} {cs : List Value} {p : List MemPlace} (hu : P.underlying t = some (.slice e)) (h : DataW.trod enc P w 0 (fun _ => true) false m t cs = some (.nil, p)) : cs = [.slice none 0 0] := by
  cases m with
  | zero => simp [DataW.trod] at h
  | succ m =>
    match cs with
    | [] => simp [DataW.trod, hu] at h
    | _ :: _ :: _ => simp [DataW.trod, hu] at h
    | [v] =>
      cases v with
      | slice a len cap =>
        cases a with
        | none =>
          cases len <;> cases cap <;> simp [DataW.trod, hu] at h
          rfl
        | some a =>
          simp only [DataW.trod, hu] at h
          split at h
          · simp only [Option.bind_eq_some_iff, Option.map_eq_some_iff, Prod.mk.injEq] at h
            obtain ⟨_, _, _, _, h, _⟩ := h
            cases h
          · cases h
      | _ => simp [DataW.trod, hu] at h

/-- A slice whose capacity is its length. -/
theorem trod_slice {t e : TypeId} {m : Nat} {cs : List Value} {es : List (DataW Unit)} {p : List MemPlace} (hu : P.underlying t = some (.slice e)) (h : DataW.trod enc P w 0 (fun _ => true) false (m + 1) t cs = some (.slice es [], p)) :
    ∃ a, cs = [.slice (some a) es.length es.length] ∧
      ∀ i d, es[i]? = some d → ∃ ci q, w.cells? 0 (a.add (i * P.cellsOf e)) (P.cellsOf e) = some ci ∧ DataW.trod enc P w 0 (fun _ => true) false m e ci = some (d, q) := by
  match cs with
  | [] => simp [DataW.trod, hu] at h
  | _ :: _ :: _ => simp [DataW.trod, hu] at h
  | [v] =>
    cases v with
    | slice a len cap =>
      cases a with
      | none => cases len <;> cases cap <;> simp [DataW.trod, hu] at h
      | some a =>
        simp only [DataW.trod, hu] at h
        split at h
        · rename_i hc
          simp only [Option.bind_eq_some_iff, Option.map_eq_some_iff, Prod.mk.injEq, if_true, DataW.slice.injEq, List.map_eq_nil_iff] at h
          obtain ⟨elems, h1, rest, h2, ⟨h3, h4⟩, _⟩ := h
          subst h4
          have l2 := (mapM_at h2).1
          obtain ⟨l1, g1⟩ := mapM_at h1
          have hcap : cap = len := by
            have := hc.2.1
            simp at l2
            omega
          have hes : es.length = len := by rw [← h3, List.length_map, l1]
          refine ⟨a, by rw [hcap, hes], fun i d hd => ?_⟩
          have hi : i < len := by
            have := (List.getElem?_eq_some_iff.1 hd).1; omega
          have g := g1 i hi
          rw [← h3, List.getElem?_map] at hd
          cases hx : elems[i]? with
          | none => rw [hx] at hd; cases hd
          | some y =>
            rw [hx] at hd g
            simp only [Option.map_some, Option.some.injEq] at hd
            subst hd
            obtain ⟨ci, g2, g3⟩ := Option.bind_eq_some_iff.1 g
            exact ⟨ci, y.2, g2, g3⟩
        · cases h
    | _ => simp [DataW.trod, hu] at h

theorem trod_struct {t : TypeId} {fs : Array Field} {m : Nat} {cs : List Value} {ds : List (DataW Unit)} {p : List MemPlace} (hu : P.underlying t = some (.struct fs)) (h : DataW.trod enc P w 0 (fun _ => true) false (m + 1) t cs = some (.agg ds, p)) :
    cs.length = P.cellsOf t ∧ ∃ xs, fs.toList.mapM (fun fd => DataW.trod enc P w 0 (fun _ => true) false m fd.type ((cs.drop fd.offset).take (P.cellsOf fd.type))) = some xs ∧ xs.map (·.1) = ds := by
  have h' : (if cs.length = P.cellsOf t then (fs.toList.mapM fun f => DataW.trod enc P w 0 (fun _ => true) false m f.type ((cs.drop f.offset).take (P.cellsOf f.type))).map fun xs => ((.agg (xs.map (·.1)) : DataW Unit), xs.flatMap (·.2)) else none) = some (.agg ds, p) := by
    rw [← h]
    match cs with
    | [] => simp [DataW.trod, hu]
    | _ :: _ :: _ => simp [DataW.trod, hu]
    | [v] => cases v <;> simp [DataW.trod, hu]
  split at h'
  · rename_i hl
    simp only [Option.map_eq_some_iff, Prod.mk.injEq, DataW.agg.injEq] at h'
    obtain ⟨xs, h1, h2, _⟩ := h'
    exact ⟨hl, xs, h1, h2⟩
  · cases h'

theorem trod_array {t e : TypeId} {n m : Nat} {cs : List Value} {ds : List (DataW Unit)} {p : List MemPlace} (hu : P.underlying t = some (.array n e)) (h : DataW.trod enc P w 0 (fun _ => true) false (m + 1) t cs = some (.agg ds, p)) :
    cs.length = P.cellsOf t ∧ ∃ xs, (List.range n).mapM (fun i => DataW.trod enc P w 0 (fun _ => true) false m e ((cs.drop (i * P.cellsOf e)).take (P.cellsOf e))) = some xs ∧ xs.map (·.1) = ds := by
  have h' : (if cs.length = P.cellsOf t then ((List.range n).mapM fun i => DataW.trod enc P w 0 (fun _ => true) false m e ((cs.drop (i * P.cellsOf e)).take (P.cellsOf e))).map fun xs => ((.agg (xs.map (·.1)) : DataW Unit), xs.flatMap (·.2)) else none) = some (.agg ds, p) := by
    rw [← h]
    match cs with
    | [] => simp [DataW.trod, hu]
    | _ :: _ :: _ => simp [DataW.trod, hu]
    | [v] => cases v <;> simp [DataW.trod, hu]
  split at h'
  · rename_i hl
    simp only [Option.map_eq_some_iff, Prod.mk.injEq, DataW.agg.injEq] at h'
    obtain ⟨xs, h1, h2, _⟩ := h'
    exact ⟨hl, xs, h1, h2⟩
  · cases h'

theorem cell_row {a : Addr} {v : Value} (h : w.cell? a = some v) : a.spot = none ∧ ∃ c t fz, w.heap[a.block]? = some (.cells c t fz) ∧ c[a.off]? = some v := by
  unfold World.cell? at h
  split at h
  · rename_i c t fz hb
    split at h
    · cases h
    · rename_i hs
      exact ⟨by simpa using hs, c, t, fz, hb, h⟩
  · cases h

theorem add_spot {a : Addr} (hs : a.spot = none) (n : Nat) : a.add n = ⟨a.block, a.off + n, none⟩ := by
  obtain ⟨b, o, s⟩ := a
  simp only at hs
  subst hs
  unfold Addr.add
  split
  · rename_i e; subst e; rfl
  · rfl

theorem cells_at {a : Addr} {n : Nat} {ci : List Value} (h : w.cells? 0 a n = some ci) : ci.length = n ∧ ∀ j, j < n → w.cell? (a.add j) = ci[j]? := by
  unfold World.cells? at h
  rw [if_pos (Nat.zero_le _)] at h
  exact mapM_at h

theorem flat_cells {blk off size : Nat} : ∀ (css : List (List Value)) (start : Nat), (∀ (i : Nat) cs, css[i]? = some cs → cs.length = size ∧ ∀ j, j < size → cs[j]? = w.cell? ⟨blk, off + (start + i) * size + j, none⟩) →
    ∀ (x : Nat) (y : Value), css.flatten[x]? = some y → w.cell? ⟨blk, off + start * size + x, none⟩ = some y
  | [], _, _, x, y, h => by simp at h
  | cs :: css, start, hc, x, y, h => by
    obtain ⟨h1, h2⟩ := hc 0 cs rfl
    rw [List.flatten_cons] at h
    by_cases hx : x < size
    · rw [List.getElem?_append_left (by omega), h2 x hx] at h
      exact h
    · rw [List.getElem?_append_right (by omega), h1] at h
      have := flat_cells css (start + 1) (fun i cs hi => by
        have := hc (i + 1) cs (by simpa using hi)
        rw [show start + (i + 1) = start + 1 + i from by omega] at this
        exact this) (x - size) y h
      rw [show off + (start + 1) * size + (x - size) = off + start * size + x from by rw [Nat.add_mul]; omega] at this
      exact this

/-- What is laid for a datum stands for what is read as it. -/
theorem lay_sound : ∀ (n : Nat) (t : TypeId), Reads enc P w t (lay P n t)
  | 0, t => by intro m cs d p b as ks _ h; simp [lay] at h
  | n + 1, t => by
    intro m cs d p b as ks ht h
    cases m with
    | zero => simp [DataW.trod] at ht
    | succ m =>
      simp only [lay] at h
      split at h
      · rename_i hu
        split at h
        · simp only [Option.some.injEq, Prod.mk.injEq] at h
          obtain ⟨rfl, rfl⟩ := h
          rw [trod_bool hu ht]
          exact layOk_one fun _ => rfl
        · cases h
      · rename_i hu
        split at h
        · simp only [Option.some.injEq, Prod.mk.injEq] at h
          obtain ⟨rfl, rfl⟩ := h
          rw [trod_int hu ht]
          exact layOk_one fun _ => rfl
        · cases h
      · rename_i hu
        split at h
        · simp only [Option.some.injEq, Prod.mk.injEq] at h
          obtain ⟨rfl, rfl⟩ := h
          rw [trod_str hu ht]
          exact layOk_one fun _ => rfl
        · cases h
      · rename_i e hu
        split at h
        · simp only [Option.some.injEq, Prod.mk.injEq] at h
          obtain ⟨rfl, rfl⟩ := h
          rw [trod_nils hu ht]
          exact layOk_one fun _ => rfl
        · rename_i es
          obtain ⟨as', ks', h1, hne, rfl, rfl⟩ := layS_spec h
          obtain ⟨a, rfl, hel⟩ := trod_slice hu ht
          have hlen := layL_length h1
          have hpos : 0 < es.length ∧ 0 < P.cellsOf e := by
            have : 0 < as'.length := List.length_pos_iff.2 hne
            rw [hlen] at this
            exact ⟨Nat.pos_of_mul_pos_right this |> fun h => (by
              rcases Nat.eq_zero_or_pos es.length with h0 | h0
              · rw [h0] at this; simp at this
              · exact h0), (by
              rcases Nat.eq_zero_or_pos (P.cellsOf e) with h0 | h0
              · rw [h0] at this; simp at this
              · exact h0)⟩
          -- the row
          obtain ⟨c0, q0, g1, g2⟩ := hel 0 es[0] (by simp [hpos.1])
          obtain ⟨g3, g4⟩ := cells_at g1
          have g5 := g4 0 hpos.2
          have hc0 : ∃ v, c0[0]? = some v := ⟨c0[0]'(by omega), by simp⟩
          obtain ⟨v0, hv0⟩ := hc0
          rw [hv0] at g5
          have e0 : ∀ x : Addr, x.add 0 = x := fun x => by unfold Addr.add; simp
          rw [Nat.zero_mul, e0, e0] at g5
          obtain ⟨hs, c, tt, fz, hrow, _⟩ := cell_row g5
          let css : List (List Value) := (List.range es.length).map fun i => (w.cells? 0 (a.add (i * P.cellsOf e)) (P.cellsOf e)).getD []
          have hcss : ∀ i, i < es.length → ∃ ci q, css[i]? = some ci ∧ w.cells? 0 (a.add (i * P.cellsOf e)) (P.cellsOf e) = some ci ∧ ∀ d, es[i]? = some d → DataW.trod enc P w 0 (fun _ => true) false m e ci = some (d, q) := by
            intro i hi
            obtain ⟨ci, q, k1, k2⟩ := hel i es[i] (by simp [hi])
            refine ⟨ci, q, by simp [css, hi, k1], k1, fun d hd => ?_⟩
            simp only [hi, List.getElem?_eq_getElem, Option.some.injEq] at hd
            rw [← hd]; exact k2
          have hlcss : css.length = es.length := by simp [css]
          have hL := layL_sound (lay_sound n e) es (b + 1) as' ks' css h1 hlcss (fun i cs d hi hd => by
            obtain ⟨ci, q, k1, _, k3⟩ := hcss i (List.getElem?_eq_some_iff.1 hd).1
            rw [hi] at k1; cases k1
            exact ⟨m, q, k3 d hd⟩)
          have hflat := flat_cells (w := w) (blk := a.block) (off := a.off) (size := P.cellsOf e) css 0 (fun i cs hi => by
            have hi' : i < es.length := by rw [← hlcss]; exact (List.getElem?_eq_some_iff.1 hi).1
            obtain ⟨ci, q, k1, k2, _⟩ := hcss i hi'
            rw [hi] at k1; cases k1
            obtain ⟨k4, k5⟩ := cells_at k2
            refine ⟨k4, fun j hj => ?_⟩
            rw [← k5 j hj, add_spot hs, add_spot rfl, Nat.zero_add])
          obtain ⟨locs, l1, l2⟩ := hL
          refine ⟨⟨a.block, a.off, es.length * P.cellsOf e, 0⟩ :: locs, by simp [l1], fun ι hι => ?_⟩
          have hb0 : ι b = some ⟨a.block, a.off, es.length * P.cellsOf e, 0⟩ := hι 0 _ rfl
          obtain ⟨m1, m2⟩ := l2 ι (fun i L hL => by
            have := hι (i + 1) L (by simpa using hL)
            rw [show b + (i + 1) = b + 1 + i from by omega] at this
            exact this)
          refine ⟨⟨_, [], ⟨_, 0, a.off, hb0, Nat.le_refl _, .inl rfl, .inr rfl, ?_⟩, rfl, rfl⟩, fun i k L hk hL => ?_⟩
          · obtain ⟨ab, ao, as2⟩ := a
            simp only at hs
            subst hs
            rfl
          · cases i with
            | zero =>
              simp only [List.getElem?_cons_zero, Option.some.injEq] at hk hL
              subst hk; subst hL
              refine ⟨⟨c, tt, fz, hrow, hlen.symm, fun _ => rfl, fun i v hv => ?_, fun h => by cases h⟩, (Array.getElem?_eq_some_iff.1 hrow).1⟩
              obtain ⟨y, n1, n2⟩ := m1.get i v hv
              have n3 := hflat i y n1
              obtain ⟨_, c', t', fz', n4, n5⟩ := cell_row n3
              simp only at n4 n5
              rw [hrow] at n4
              cases n4
              rw [Nat.zero_mul, Nat.add_zero] at n5
              exact ⟨y, n5, n2⟩
            | succ i => exact m2 i k L (by simpa using hk) (by simpa using hL)
        · cases h
      · rename_i fs hu
        split at h
        · obtain ⟨h1, h2⟩ := layC_spec h
          obtain ⟨h3, xs, h4, h5⟩ := trod_struct hu ht
          have := layF_sound (cs := cs) (m := m) (fun t => lay_sound n t) fs.toList 0 _ b as ks xs h1 h4 h5 (by omega)
          rw [List.drop_zero, List.take_of_length_le (by omega)] at this
          exact this
        · cases h
      · rename_i k e hu
        split at h
        · rename_i ds
          split at h
          · rename_i hb
            have hb := Nat.eq_of_beq_eq_true hb
            obtain ⟨h1, h2⟩ := layC_spec h
            obtain ⟨h3, xs, h4, h5⟩ := trod_array hu ht
            obtain ⟨h6, h7⟩ := mapM_at h4
            have hlen := layL_length h1
            have := layL_sound (lay_sound n e) ds b as ks ((List.range k).map fun i => (cs.drop (i * P.cellsOf e)).take (P.cellsOf e)) h1 (by simp [hb]) (fun i ci d hi hd => by
              have hik : i < k := by
                have := (List.getElem?_eq_some_iff.1 hi).1
                simpa using this
              simp only [List.getElem?_map, List.getElem?_range hik, Option.map_some, Option.some.injEq] at hi
              subst hi
              have h8 := h7 i hik
              rw [← h5, List.getElem?_map] at hd
              cases hx : xs[i]? with
              | none => rw [hx] at hd; cases hd
              | some y =>
                rw [hx] at hd h8
                simp only [Option.map_some, Option.some.injEq] at hd
                subst hd
                exact ⟨m, y.2, h8⟩)
            rw [chunks_flatten (P.cellsOf e) k cs (by rw [h3, ← h2, hlen, hb])] at this
            exact this
          · cases h
        · cases h
      · cases h

end Go.AM

namespace Go.AM
open Go

section start
variable (P : Program)

/-! The memory in which a call begins: the package's variables, as they are laid. -/
noncomputable def layG (N : Nat) : List (String × DataW Unit) → Nat → Option (List (Nat × List AV) × List ABlk)
  | [], _ => some ([], [])
  | (n, d) :: r, b => match P.globalNamed n with
    | some g => match (P.globals[g]?).map (·.type) with
      | some t => match lay P N t d b with
        | some (as, ks) => match layG N r (b + ks.length) with
          | some (gs, ks') => some ((g, as) :: gs, ks ++ ks')
          | none => none
        | none => none
      | none => none
    | none => none

noncomputable def rowsFrom (gs : List (Nat × List AV)) : Nat → Nat → Option (List ABlk)
  | 0, _ => some []
  | n + 1, g => match gs.find? (fun x => Nat.beq x.1 g) with
    | some x => match rowsFrom gs n (g + 1) with
      | some l => some (.cells x.2 true true :: l)
      | none => none
    | none => none

noncomputable def startOf (N : Nat) (laid : List (String × DataW Unit)) : Option (List ABlk) := match layG P N laid P.globals.size with
  | some (gs, ks) => match rowsFrom gs P.globals.size 0 with
    | some l => some (l ++ ks)
    | none => none
  | none => none
end start

variable {P : Program} {w : World}

theorem layG_sound {N : Nat} : ∀ (laid : List (String × DataW Unit)) (b : Nat) (ps : List MemPlace) (gs : List (Nat × List AV)) (ks : List ABlk), layG P N laid b = some (gs, ks) → DataW.LaidVars P w laid ps →
    ∃ locs : List Loc, locs.length = ks.length ∧ ∀ ι : Inj, (∀ (i : Nat) (L : Loc), locs[i]? = some L → ι (b + i) = some L) →
      (∀ x ∈ gs, ∃ cs tt fz, w.heap[x.1]? = some (.cells cs tt fz) ∧ VRs ι x.2 cs.toList) ∧ ∀ (i : Nat) (k : ABlk) (L : Loc), ks[i]? = some k → locs[i]? = some L → BR ι L w.heap[L.blk]? k ∧ L.blk < w.heap.size
  | [], b, ps, gs, ks, h, _ => by
    simp only [layG, Option.some.injEq, Prod.mk.injEq] at h
    obtain ⟨rfl, rfl⟩ := h
    exact ⟨[], rfl, fun _ _ => ⟨fun x hx => (by cases hx), fun i k L hk => (by simp at hk)⟩⟩
  | (n, d) :: r, b, ps, gs, ks, h, hl => by
    obtain ⟨g, t, cs, fuel, p, q, h1, h2, h3, h4, h5, _⟩ := hl
    simp only [layG, h1, h2] at h
    split at h
    · rename_i as ks1 hlay
      split at h
      · rename_i gs2 ks2 hrest
        simp only [Option.some.injEq, Prod.mk.injEq] at h
        obtain ⟨rfl, rfl⟩ := h
        obtain ⟨l1, a1, a2⟩ := lay_sound N t fuel cs.toList d p b as ks1 h4 hlay
        obtain ⟨l2, b1, b2⟩ := layG_sound r (b + ks1.length) q gs2 ks2 hrest h5
        refine ⟨l1 ++ l2, by simp [a1, b1], fun ι hι => ?_⟩
        obtain ⟨c1, c2⟩ := a2 ι (fun i L hL => hι i L (by rw [List.getElem?_append_left (List.getElem?_eq_some_iff.1 hL).1]; exact hL))
        obtain ⟨d1, d2⟩ := b2 ι (fun i L hL => by
          have := hι (l1.length + i) L (by rw [List.getElem?_append_right (by omega)]; simpa using hL)
          rw [Nat.add_assoc, ← a1]; exact this)
        refine ⟨fun x hx => ?_, fun i k L hk hL => ?_⟩
        · rcases List.mem_cons.1 hx with rfl | hx
          · have h3' := h3
            simp only [World.var?, h1, Option.bind_some] at h3'
            split at h3'
            · rename_i c tt fz hb
              cases h3'
              exact ⟨cs, tt, fz, hb, c1⟩
            · cases h3'
          · exact d1 x hx
        · by_cases hi : i < ks1.length
          · rw [List.getElem?_append_left hi] at hk
            rw [List.getElem?_append_left (by omega)] at hL
            exact c2 i k L hk hL
          · rw [List.getElem?_append_right (by omega)] at hk
            rw [List.getElem?_append_right (by omega), a1] at hL
            exact d2 _ k L hk hL
      · cases h
    · cases h

theorem rowsFrom_spec {gs : List (Nat × List AV)} : ∀ (n g : Nat) (l : List ABlk), rowsFrom gs n g = some l → l.length = n ∧ ∀ (i : Nat) k, l[i]? = some k → ∃ x ∈ gs, x.1 = g + i ∧ k = .cells x.2 true true
  | 0, g, l, h => by
    simp only [rowsFrom, Option.some.injEq] at h
    subst h
    exact ⟨rfl, fun i k hk => by simp at hk⟩
  | n + 1, g, l, h => by
    simp only [rowsFrom] at h
    split at h
    · rename_i x hx
      split at h
      · rename_i l' hl
        cases h
        obtain ⟨h1, h2⟩ := rowsFrom_spec n (g + 1) l' hl
        refine ⟨by simp [h1], fun i k hk => ?_⟩
        cases i with
        | zero =>
          simp only [List.getElem?_cons_zero, Option.some.injEq] at hk
          have h3 := List.find?_some hx
          exact ⟨x, List.mem_of_find?_eq_some hx, by rw [Nat.add_zero]; exact Nat.eq_of_beq_eq_true h3, hk.symm⟩
        | succ i =>
          obtain ⟨y, y1, y2, y3⟩ := h2 i k (by simpa using hk)
          exact ⟨y, y1, by omega, y3⟩
      · cases h
    · cases h

/-- The memory that is laid stands for the world's. -/
theorem start_sound {N : Nat} {laid : List (String × DataW Unit)} {ps : List MemPlace} {bs : List ABlk} (hs : startOf P N laid = some bs) (hl : DataW.LaidVars P w laid ps) (hw : (bs.all fun k : ABlk => !k.writable) = true) :
    ∃ ι : Inj, HR ι ⟨Tr.ofList bs, bs.length⟩ w ∧ GR P ι ∧ ∀ c, ¬ Img ABlk.writable ι ⟨Tr.ofList bs, bs.length⟩ c := by
  unfold startOf at hs
  split at hs
  case h_2 => cases hs
  rename_i gs ks hg
  split at hs
  case h_2 => cases hs
  rename_i l hr
  cases hs
  obtain ⟨locs, h1, h2⟩ := layG_sound laid P.globals.size ps gs ks hg hl
  obtain ⟨h3, h4⟩ := rowsFrom_spec _ _ _ hr
  let sz : Nat → Nat := fun b => match (l ++ ks)[b]? with
    | some (.cells cs _ _) => cs.length
    | _ => 0
  let ι : Inj := fun b => if b < P.globals.size then some ⟨b, 0, sz b, 0⟩ else locs[b - P.globals.size]?
  have hι : ∀ (i : Nat) (L : Loc), locs[i]? = some L → ι (P.globals.size + i) = some L := fun i L hL => by
    simp only [ι]
    rw [if_neg (by omega)]
    simpa using hL
  obtain ⟨h5, h6⟩ := h2 ι hι
  have hget : ∀ b, (⟨Tr.ofList (l ++ ks), (l ++ ks).length⟩ : AHeap).get b = (l ++ ks)[b]? := fun b => Tr.get_ofList _ _
  have hnow : ∀ (b : Nat) (k : ABlk), (l ++ ks)[b]? = some k → k.writable = false := fun b k hk => by
    have := List.all_eq_true.1 hw k (List.mem_of_getElem? hk)
    simpa using this
  have hrow : ∀ b, b < P.globals.size → ∃ x ∈ gs, x.1 = b ∧ (l ++ ks)[b]? = some (.cells x.2 true true) := fun b hb => by
    have hb' : b < l.length := by omega
    obtain ⟨x, x1, x2, x3⟩ := h4 b l[b] (by simp [hb'])
    exact ⟨x, x1, by omega, by rw [List.getElem?_append_left hb', List.getElem?_eq_getElem hb', x3]⟩
  refine ⟨ι, ⟨?_, ?_, ?_, ?_, ?_⟩, ?_, ?_⟩
  · intro b k L hk hL
    rw [hget] at hk
    by_cases hb : b < P.globals.size
    · obtain ⟨x, x1, x2, x3⟩ := hrow b hb
      rw [x3] at hk; cases hk
      have hL' : some (⟨b, 0, sz b, 0⟩ : Loc) = some L := by simpa [ι, hb] using hL
      cases hL'
      obtain ⟨cs, tt, fz, e1, e2⟩ := h5 x x1
      rw [x2] at e1
      refine ⟨cs, tt, fz, e1, by simp only [sz, x3], fun _ => rfl, fun i v hv => ?_, fun h => by cases h⟩
      obtain ⟨y, y1, y2⟩ := e2.get i v hv
      exact ⟨y, by rw [Nat.zero_add]; simpa using y1, y2⟩
    · have hL' : locs[b - P.globals.size]? = some L := by simpa [ι, hb] using hL
      rw [List.getElem?_append_right (by omega), h3] at hk
      exact (h6 _ k L hk hL').1
  · intro b L hL
    by_cases hb : b < P.globals.size
    · have hL' : some (⟨b, 0, sz b, 0⟩ : Loc) = some L := by simpa [ι, hb] using hL
      cases hL'
      obtain ⟨x, x1, x2, x3⟩ := hrow b hb
      obtain ⟨cs, tt, fz, e1, e2⟩ := h5 x x1
      rw [x2] at e1
      exact (Array.getElem?_eq_some_iff.1 e1).1
    · have hL' : locs[b - P.globals.size]? = some L := by simpa [ι, hb] using hL
      have hlt := (List.getElem?_eq_some_iff.1 hL').1
      exact (h6 _ (ks[b - P.globals.size]'(by omega)) L (by simp [h1 ▸ hlt]) hL').2
  · intro b b' L L' k k' _ _ _ hk _ hwr
    rw [hget] at hk
    rw [hnow b k hk] at hwr; cases hwr
  · intro b k hk
    rw [hget] at hk
    exact (List.getElem?_eq_some_iff.1 hk).1
  · intro b hb
    simp only [List.length_append] at hb
    simp only [ι]
    rw [if_neg (by omega)]
    simp
    omega
  · intro g hg'
    exact ⟨⟨g, 0, sz g, 0⟩, by simp [ι, hg'], rfl, rfl⟩
  · rintro c ⟨b, L, k, _, hk, hwr, _⟩
    rw [hget] at hk
    rw [hnow b k hk] at hwr; cases hwr

noncomputable def saysTrue (r : Option Ans) : Bool := match r with
  | some (.norm, .bool true, _) => true
  | _ => false

theorem saysTrue_spec {r : Option Ans} (h : saysTrue r = true) : ∃ s, r = some (.norm, .bool true, s) := by
  unfold saysTrue at h
  split at h
  · exact ⟨_, rfl⟩
  · cases h

/-- A closed law: evaluated once, it is true in every world in which the variables are as they are laid; memory that was there is as it was. -/
theorem closed_calls (hm : P.follows .mixedOrders = true) {N n : Nat} {f : FuncId} {laid : List (String × DataW Unit)} {bs : List ABlk} (hs : startOf P N laid = some bs) (hw : (bs.all fun k : ABlk => !k.writable) = true)
    (he : saysTrue (ev P n (.call f []) ⟨.nil, 0, [], .none, ⟨Tr.ofList bs, bs.length⟩⟩) = true) (hl : laidMet P laid w) :
    Calls P f #[] w fun e u => e = .returned (.bool true) ∧ ∀ may, w.keptBut u may := by
  obtain ⟨ps, hl, _⟩ := hl
  obtain ⟨ι, h1, h2, h3⟩ := start_sound hs hl hw
  obtain ⟨s, hs⟩ := saysTrue_spec he
  refine (calls_of_ev hm hs (args' := []) rfl h1 h2).mono fun e u ⟨κ, v', e1, e2, _, e4⟩ => ?_
  have e2' : v' = .bool true := e2
  subst e2'
  refine ⟨e1, fun may => ⟨e4.env.1, e4.env.2.1, fun i hi => ?_⟩⟩
  have hk := e4.kept i hi (h3 i)
  rw [hk]
  cases hx : w.heap[i]? with
  | none => trivial
  | some o => cases o <;> simp

end Go.AM
